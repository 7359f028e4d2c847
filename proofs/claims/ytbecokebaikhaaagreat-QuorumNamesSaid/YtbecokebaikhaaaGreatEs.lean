/-
  E, nineteenth text: what a run of the evaluator in the kernel says of the program.
-/
import Derived.Test.YtbecokebaikhaaaGreatEqf
namespace Go.E
open Go Go.RowKit Go.V
set_option linter.unusedVariables false
set_option linter.unusedSimpArgs false
/-- Of all that a trie holds. -/
def optB {α : Type} (p : α → Bool) : Option α → Bool
  | some x => p x
  | none => true
def Tr.allB {α : Type} : (Nat → α → Bool) → Tr α → Bool
  | _, .lf => true
  | p, .nd l v r => bif optB (p 0) v then (bif Tr.allB (fun n => p (2 * n + 1)) l then Tr.allB (fun n => p (2 * n + 2)) r else false) else false
theorem Tr.allB_get {α : Type} : ∀ {t : Tr α} {p : Nat → α → Bool}, t.allB p = true → ∀ n x, t.get n = some x → p n x = true
  | .lf, p, _, n, x, hx => by cases hx
  | .nd l v r, p, h, n, x, hx => by
    unfold Tr.allB at h
    rw [Tr.get_nd] at hx
    have h1 : optB (p 0) v = true := by
      cases hb : optB (p 0) v with
      | true => rfl
      | false => rw [hb] at h; cases h
    rw [h1, cond_true] at h
    have h2 : l.allB (fun n => p (2 * n + 1)) = true := by
      cases hb : l.allB (fun n => p (2 * n + 1)) with
      | true => rfl
      | false => rw [hb] at h; cases h
    rw [h2, cond_true] at h
    split at hx
    · rename_i h0
      subst h0
      rw [hx] at h1
      exact h1
    · rename_i h0
      split at hx
      · rename_i h3
        have := Tr.allB_get h2 _ _ hx
        rwa [show 2 * (n / 2) + 1 = n by omega] at this
      · rename_i h3
        have := Tr.allB_get h _ _ hx
        rwa [show 2 * (n / 2 - 1) + 2 = n by omega] at this
def optP.{u} {α : Type u} (p : α → Prop) : Option α → Prop
  | some x => p x
  | none => True
def Tr.All.{u} {α : Type u} : (Nat → α → Prop) → Tr α → Prop
  | _, .lf => True
  | p, .nd l v r => optP (p 0) v ∧ Tr.All (fun n => p (2 * n + 1)) l ∧ Tr.All (fun n => p (2 * n + 2)) r
theorem Tr.all_get.{u} {α : Type u} : ∀ {t : Tr α} {p : Nat → α → Prop}, t.All p → ∀ n x, t.get n = some x → p n x
  | .lf, p, _, n, x, hx => by cases hx
  | .nd l v r, p, ⟨h1, h2, h⟩, n, x, hx => by
    rw [Tr.get_nd] at hx
    split at hx
    · rename_i h0
      subst h0
      rw [hx] at h1
      exact h1
    · rename_i h0
      split at hx
      · rename_i h3
        have := Tr.all_get h2 _ _ hx
        rwa [show 2 * (n / 2) + 1 = n by omega] at this
      · rename_i h3
        have := Tr.all_get h _ _ hx
        rwa [show 2 * (n / 2 - 1) + 2 = n by omega] at this
/-- A function as the table has it. -/
def fiOf (f : Func) : FI := ⟨f.body.getD .skip, f.ntmps, f.results.toList⟩
theorem fnOk_of {P : Program} {k : Nat} {f : Func} (h : P.funcs[k]? = some f) (hb : f.body.isSome = true) (hn : (f.name == "runtime.NumGoroutine") = false) (hc : codeB f.ntmps (f.body.getD .skip) = true) : FnOk P k (fiOf f) := by
  refine ⟨⟨f, h, ?_, rfl, ?_, hn⟩, hc⟩
  · obtain ⟨c, hc⟩ := Option.isSome_iff_exists.1 hb
    rw [fiOf, hc]; rfl
  · simp [fiOf]
def isT : V → Bool
  | .at (.bool b) => b
  | _ => false
theorem isT_ok {ρ : Plc} {v : V} {x : Value} (h : isT v = true) (hv : VR ρ v x) : x = .bool true := by
  unfold isT at h
  split at h
  · subst h
    have := hv.atom
    cases this
    rfl
  · cases h
theorem Rel.none (w : World) : Rel (fun _ => none) (Tr.lf : H).get 0 w := ⟨fun b p h => (by cases h), fun b B h => (by cases h), fun b b' p p' h => absurd rfl h⟩
theorem Stp.grow {ρ ρ' : Plc} {g' : Hp} {nx nx' : Nat} {fl fd : Nat} {w w' : World} (h : Stp fl fd ρ (Tr.lf : H).get nx w ρ' g' nx' w') : Grow w w' :=
  ⟨{ size := h.size, block := fun k hk => h.fr k hk fun b p _ hb => absurd rfl hb, os := h.os, tape := h.tape, output := h.output }, h.size⟩
theorem top_ok {P : Program} {Γ : Ctx} (hm : P.follows .mixedOrders = true) (hΓ : CtxOk P Γ) {f : Nat} {fi : FI} (hfi : Γ.fn.get f = some fi) (hnc : (Γ.con.get f).isNone = true) (vs : List V) (xs : List Value) (hv : ∀ ρ, VRs ρ vs xs) (d : Nat)
    (h : callN false Γ true d 0 0 f vs .lf 0 (fun v _ _ => isT v) = true) (w : World) : Calls P f xs.toArray w (Ret fun x w' => x = .bool true ∧ Grow w w') := by
  have hC : CallOk false P (callN false Γ true d) := callN_ok hΓ true (fun C hC => drawn_ok hm hΓ.ty hC true) d
  rcases hC 0 0 (Nat.le_refl _) f vs .lf 0 (fun v _ _ => isT v) with e | ⟨v, h', nx', hcm, e⟩
  · rw [h] at e; cases e
  · rw [h] at e
    have hr := hcm (fun _ => none) w xs (hv _) (Rel.none w)
    obtain ⟨fn, e1, e2, e3, e4, e5⟩ := (hΓ.fn f fi hfi).ent.ex
    have hent : (callFunc f xs.toArray).run P w = .ok (.enter f xs.toArray) w := by
      have e5' : ¬ fn.name = "runtime.NumGoroutine" := by simpa using e5
      simp [callFunc, e1, e2, e5']
    rw [hent] at hr
    have hr : Calls P f xs.toArray w (Ret _) := hr
    exact Calls.mono hr fun en w' ⟨x, h1, ρ', h2, h3⟩ => ⟨x, h1, isT_ok e.symm h2, h3.grow⟩
end Go.E
