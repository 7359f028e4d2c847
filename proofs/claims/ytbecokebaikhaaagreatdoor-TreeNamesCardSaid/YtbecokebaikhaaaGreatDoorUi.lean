import Derived.Test.YtbecokebaikhaaaGreatDoorUd
set_option linter.unusedSimpArgs false
set_option linter.unusedVariables false
set_option linter.unusedSectionVars false
namespace Go.E
open Go Go.RowKit Go.V
variable [Gl] [LoopTab]
theorem Stp.ofGrow {fl fd : Nat} {ρ : Plc} {g : Hp} {nx : Nat} {w w' : World} (hr : Rel ρ g nx w) (hg : Grow w w') : Stp fl fd ρ g nx w ρ g nx w' := by
  have hold : ∀ k, k < w.heap.size → w'.heap[k]? = w.heap[k]? := fun k hk => hg.1.block k hk
  refine ⟨fun _ _ h => h, Nat.le_refl _, ⟨fun b p hp => ?_, fun b B hB => ?_, hr.inj, hr.gl⟩, fun _ _ h => .inl h, fun _ _ => .inl rfl, fun b p h1 h2 => .inl ⟨h1, h2⟩, hg.1.os, hg.1.tape, hg.1.output, hg.2, fun k hk _ => hold k hk, fun k ⟨r, hk⟩ => ⟨r, (hold k (Array.getElem?_eq_some_iff.1 hk).1).trans hk⟩⟩
  · have := hr.dom b p hp; have := hg.2; omega
  · obtain ⟨p, hp, hb⟩ := hr.blk b B hB
    refine ⟨p, hp, ?_⟩
    rw [hold _ (hr.dom b p hp).2]
    exact hb
def conOf (g : List V → Option V) : Con := ⟨fun bad vs h _ _ nx k => match g vs with
  | some v => k v h nx
  | none => bad⟩
def GOk (P : Program) (f : FuncId) (g : List V → Option V) : Prop := ∀ vs v, g vs = some v → ∀ ρ xs w, VRs ρ vs xs → Calls P f xs.toArray w (Ret fun x w' => VR ρ v x ∧ Grow w w')
theorem enters_of {P : Program} {f : FuncId} {fi : FI} (hf : FnOk P f fi) (xs : Array Value) (w : World) : (callFunc f xs).run P w = .ok (.enter f xs) w := by
  obtain ⟨fn, e1, e2, e3, e4, e5⟩ := hf.ent.ex
  have e5' : ¬ fn.name = "runtime.NumGoroutine" := by simpa using e5
  simp [callFunc, e1, e2, e5']
theorem conOf_ok {P : Program} {f : FuncId} {fi : FI} (hf : FnOk P f fi) {g : List V → Option V} (hg : GOk P f g) : ConOk P f (conOf g) := by
  intro R bad fl fd hfl vs h nx k
  show Out bad (match g vs with | some v => k v h nx | none => bad) _
  cases hv : g vs with
  | none => exact .inl rfl
  | some v =>
    refine .inr ⟨v, h, nx, fun ρ w xs c hc hvs hr => ?_, rfl⟩
    cases hc
    show Res P _ ((callFunc f xs.toArray).run P w)
    rw [enters_of hf]
    have := hg vs v hv ρ xs w hvs
    exact Calls.mono this fun en w' ⟨x, h1, h2, h3⟩ => ⟨x, h1, ρ, h2, Stp.ofGrow hr h3⟩
noncomputable def nK {R : Type} (n : Nat) (k : Nat → R) : R := Nat.rec (motive := fun _ => R) (k 0) (fun x _ => k (Nat.succ x)) n
omit [Gl] [LoopTab] in
theorem nK_eq {R : Type} (n : Nat) (k : Nat → R) : nK n k = k n := by cases n <;> rfl
def exN (n : Nat) : V → Option Ex
  | .agg (.op m x) => bif Nat.beq m n then some x else none
  | .agg r => match r.bytes with
    | some (m, s) => bif Nat.beq m n then some (.c s) else none
    | none => none
  | _ => none
theorem exN_ok {n : Nat} {v : V} {x : Ex} (h : exN n v = some x) {ρ : Plc} {y : Value} (hv : VR ρ v y) : y = .agg (bcells n (Gl.den x)).toArray ∧ Gl.den x < 256 ^ n := by
  unfold exN at h
  split at h
  · rename_i m x'
    cases hb : Nat.beq m n with
    | false => rw [hb] at h; cases h
    | true =>
      rw [hb] at h
      cases h
      cases Nat.eq_of_beq_eq_true hb
      cases hv with
      | agg _ cs hr =>
        cases hr with
        | ops _ _ hlt => exact ⟨rfl, hlt⟩
  · rename_i r _
    split at h
    · rename_i m s hbs
      cases hb : Nat.beq m n with
      | false => rw [hb] at h; cases h
      | true =>
        rw [hb] at h
        cases h
        cases Nat.eq_of_beq_eq_true hb
        cases hv with
        | agg _ cs hr =>
          obtain ⟨e, hlt⟩ := rope_bytes hr hbs
          rw [Gl.den_c, e]
          exact ⟨rfl, hlt⟩
    · cases h
  · cases h
end Go.E
