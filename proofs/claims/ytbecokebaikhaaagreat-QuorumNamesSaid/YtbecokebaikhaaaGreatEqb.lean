/-
  E, seventeenth text, second part: an operation looks at its own slots alone.
-/
import Derived.Test.YtbecokebaikhaaaGreatEqa
namespace Go.E
open Go Go.RowKit Go.V
set_option linter.unusedVariables false
set_option linter.unusedSimpArgs false
def Tr.only {α : Type} : (Nat → Bool) → Tr α → Tr α
  | _, .lf => .lf
  | p, .nd l v r => .nd (Tr.only (fun n => p (2 * n + 1)) l) (bif p 0 then v else none) (Tr.only (fun n => p (2 * n + 2)) r)
theorem Tr.get_nd.{u} {α : Type u} (l r : Tr α) (u : Option α) (j : Nat) : (Tr.nd l u r).get j = if j = 0 then u else if j % 2 = 1 then l.get (j / 2) else r.get (j / 2 - 1) := by
  simp only [Tr.get]
  by_cases h0 : j = 0
  · subst h0; rfl
  · have e0 : Nat.beq j 0 = false := by cases hb : Nat.beq j 0 with | false => rfl | true => exact absurd (Nat.eq_of_beq_eq_true hb) h0
    rw [e0, cond_false, if_neg h0]
    by_cases h1 : j % 2 = 1
    · have e1 : Nat.beq (Nat.mod j 2) 1 = true := by show Nat.beq (j % 2) 1 = true; rw [h1]; rfl
      rw [e1, cond_true, if_pos h1]; rfl
    · have e1 : Nat.beq (Nat.mod j 2) 1 = false := by cases hb : Nat.beq (Nat.mod j 2) 1 with | false => rfl | true => exact absurd (Nat.eq_of_beq_eq_true hb) h1
      rw [e1, cond_false, if_neg h1]; rfl
theorem Tr.get_only {α : Type} : ∀ (t : Tr α) (p : Nat → Bool) (n : Nat), (Tr.only p t).get n = if p n = true then t.get n else none
  | .lf, p, n => by simp [Tr.only, Tr.get]
  | .nd l v r, p, n => by
    rw [Tr.only, Tr.get_nd, Tr.get_nd]
    by_cases h0 : n = 0
    · subst h0
      rw [if_pos rfl, if_pos rfl]
      cases p 0 <;> rfl
    · rw [if_neg h0, if_neg h0]
      by_cases h1 : n % 2 = 1
      · rw [if_pos h1, if_pos h1, Tr.get_only l, show 2 * (n / 2) + 1 = n by omega]
      · rw [if_neg h1, if_neg h1, Tr.get_only r, show 2 * (n / 2 - 1) + 2 = n by omega]
section
variable {R : Type} {bad : R} {env env' : En}
abbrev Sees (env env' : En) (x : Operand) : Prop := ∀ t, x = .tmp t → env.get t = env'.get t
theorem eO_see {m : Bool} {x : Operand} (h : Sees env env' x) : eO bad m env x = eO bad m env' x := by
  funext k
  unfold eO
  cases x with
  | tmp t => simp only [h t rfl]
  | _ => rfl
theorem eA_see {m : Bool} {x : Operand} (h : Sees env env' x) : eA bad m env x = eA bad m env' x := by
  funext k
  unfold eA
  rw [eO_see h]
theorem eOs_see {m : Bool} : ∀ {xs : List Operand}, (∀ x ∈ xs, Sees env env' x) → eOs bad m env xs = eOs bad m env' xs
  | [], _ => by funext k; rfl
  | x :: xs, h => by
    funext k
    unfold eOs
    rw [eO_see (h x (by simp)), eOs_see fun y hy => h y (by simp [hy])]
theorem eAs_see {m : Bool} : ∀ {xs : List Operand}, (∀ x ∈ xs, Sees env env' x) → eAs bad m env xs = eAs bad m env' xs
  | [], _ => by funext k; rfl
  | x :: xs, h => by
    funext k
    unfold eAs
    rw [eA_see (h x (by simp)), eAs_see fun y hy => h y (by simp [hy])]
theorem fillK_see {Γ : Ctx} {m : Bool} {pl : Nat → (Nat → Nat → R) → R} : ∀ {ps : List (Nat × Operand)}, (∀ x ∈ ps, Sees env env' x.2) → ∀ r k, fillK bad Γ m env pl ps r k = fillK bad Γ m env' pl ps r k
  | [], _, r, k => rfl
  | (i, x) :: ps, h, r, k => by
    unfold fillK
    rw [eO_see (h (i, x) (by simp))]
    have ih := fillK_see (Γ := Γ) (m := m) (pl := pl) (ps := ps) fun y hy => h y (by simp [hy])
    simp only [ih]
theorem bndK_see {m : Bool} {x : Option Operand} {d : Nat} (h : ∀ y, x = some y → Sees env env' y) : bndK bad m env x d = bndK bad m env' x d := by
  funext k
  unfold bndK
  cases x with
  | none => rfl
  | some y => simp only [eA_see (h y rfl)]
theorem sliceK_see {Γ : Ctx} {m : Bool} {t : TypeId} {x : Operand} {lo hi mx : Option Operand} (hx : Sees env env' x) (h1 : ∀ y, lo = some y → Sees env env' y) (h2 : ∀ y, hi = some y → Sees env env' y) (h3 : ∀ y, mx = some y → Sees env env' y) (k : V → R) :
    sliceK bad Γ m env t x lo hi mx k = sliceK bad Γ m env' t x lo hi mx k := by
  have b1 : ∀ d, bndK bad m env lo d = bndK bad m env' lo d := fun d => bndK_see h1
  have b2 : ∀ d, bndK bad m env hi d = bndK bad m env' hi d := fun d => bndK_see h2
  have b3 : ∀ d, bndK bad m env mx d = bndK bad m env' mx d := fun d => bndK_see h3
  unfold sliceK
  simp only [eA_see hx, b1, b2, b3]
theorem opK_see {Γ : Ctx} {m : Bool} {fl : Nat} {o : Op} {h : H} {nx : Nat} {k : V → H → Nat → R} (ho : ∀ x ∈ o.operands.toList, Sees env env' x) : opK bad Γ m fl o env h nx k = opK bad Γ m fl o env' h nx k := by
  unfold opK
  split <;> simp only [Op.operands, List.mem_cons, List.mem_nil_iff, or_false, forall_eq_or_imp, forall_eq, List.not_mem_nil, List.mem_append, Array.toList_append, List.mem_map, forall_exists_index, and_imp] at ho
  all_goals first
    | rfl
    | (obtain ⟨h1, h2, h3⟩ := ho; simp only [eO_see h1, eA_see h1, eO_see h2, eA_see h2, eO_see h3, eA_see h3]; done)
    | (obtain ⟨h1, h2⟩ := ho; simp only [eO_see h1, eA_see h1, eO_see h2, eA_see h2]; done)
    | (simp only [eO_see ho, eA_see ho]; done)
    | skip
  · -- build
    rename_i t ps
    have h1 : ∀ x ∈ ps.toList, Sees env env' x.2 := fun x hx => ho x.2 x hx rfl
    unfold buildK
    simp only [fillK_see h1]
  · -- buildSlice
    rename_i t n ps
    have h1 : ∀ x ∈ ps.toList, Sees env env' x.2 := fun x hx => ho x.2 x hx rfl
    simp only [fillK_see h1]
  · -- makeFunc
    rename_i f fs cs
    rw [eAs_see fun x hx => ho x (.inl hx), eAs_see fun x hx => ho x (.inr hx)]
  · -- slice
    rename_i t x lo hi mx
    exact sliceK_see (ho x (.inl (.inl (.inl rfl)))) (fun y hy => ho y (.inl (.inl (.inr (by simp [hy]))))) (fun y hy => ho y (.inl (.inr (by simp [hy])))) (fun y hy => ho y (.inr (by simp [hy]))) _
  · -- makeMap
    rename_i t r
    cases r with
    | none => rfl
    | some x => simp only [eA_see (ho x (by simp))]
theorem evO_see {C : CallF R} {Γ : Ctx} {m : Bool} {fl fd : Nat} {o : Op} {h : H} {nx : Nat} {k : V → H → Nat → R} (ho : ∀ x ∈ o.operands.toList, Sees env env' x) : evO bad C Γ m fl fd o env h nx k = evO bad C Γ m fl fd o env' h nx k := by
  unfold evO
  split
  · rename_i c
    have ha : ∀ x ∈ c.args.toList, Sees env env' x := fun x hx => ho x (by simp only [Op.operands, Call.operands]; simp; exact .inr (by simpa using hx))
    split
    · rename_i f hc
      have hf : Sees env env' f := ho f (by simp [Op.operands, Call.operands, hc])
      rw [eA_see hf, eOs_see ha]
    · rw [eOs_see ha]
    · rfl
  · exact opK_see ho
/-- The slots that an operation looks at. -/
def seen1 (os : List Oper) (o : Oper) (t : Nat) : Bool := (tmpsOf os o).any (Nat.beq t)
theorem seen1_iff {os : List Oper} {o : Oper} {t : Nat} : seen1 os o t = true ↔ t ∈ tmpsOf os o := by
  unfold seen1
  rw [List.any_eq_true]
  exact ⟨fun ⟨x, hx, hb⟩ => by rw [Nat.eq_of_beq_eq_true hb]; exact hx, fun h => ⟨t, h, Nat.beq_refl t⟩⟩
theorem only_sees {os : List Oper} {o : Oper} (env : En) : ∀ x ∈ o.op.operands.toList, Sees env (env.only (seen1 os o)) x := by
  intro x hx t ht
  have : seen1 os o t = true := by
    rw [seen1_iff]
    unfold tmpsOf
    refine List.mem_append.2 (.inl (List.mem_filterMap.2 ⟨x, hx, ?_⟩))
    rw [ht]; rfl
  rw [Tr.get_only, if_pos this]
theorem guardK_see {os : List Oper} {o : Oper} {yes no : R} : guardK bad os env o.guard yes no = guardK bad os (env.only (seen1 os o)) o.guard yes no := by
  unfold guardK
  split
  · rfl
  · rename_i j want hg
    split
    · rfl
    · rename_i p hp
      split
      · rfl
      · rename_i s hs
        have : seen1 os o s = true := by
          rw [seen1_iff]
          unfold tmpsOf
          rw [hg]
          simp [hp, hs]
        rw [Tr.get_only, if_pos this]
end
end Go.E
