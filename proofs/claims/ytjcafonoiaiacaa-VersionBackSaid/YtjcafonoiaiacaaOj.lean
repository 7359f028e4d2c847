/-
  Versions' bytes, plain: what Bytes writes, Read reads back, and the other way round.
-/
import Derived.Test.YtjcafonoiaiacaaOi
namespace Go.Proofs.Ytjcafonoiaiacaa
set_option linter.unusedSimpArgs false
set_option linter.unusedVariables false
/-- So many roots off the front of bytes. -/
def readRoots : Nat → List Nat → Option (List Int × List Nat)
  | 0, r => some ([], r)
  | k + 1, r => if (numV r).2.2 ≠ 0 ∨ 9223372036854775808 < (numV r).1 then none else
    match readRoots k (r.drop (numV r).2.1) with
    | none => none
    | some (l, r') => some ((((numV r).1 : Int) - 1) :: l, r')
/-- A version off bytes. -/
def verR (r : List Nat) : Option (Nat × List Int) :=
  let p := numV r
  if p.2.2 ≠ 0 then none else
  let q := numV (r.drop p.2.1)
  if q.2.2 ≠ 0 ∨ 9223372036854775807 < p.1 ∨ q.1 = 0 ∨ 4096 < q.1 then none else
  match readRoots q.1 ((r.drop p.2.1).drop q.2.1) with
  | some (l, []) => some (p.1, l)
  | _ => none
theorem readRoots_of : ∀ (l : List Int) (t : List Nat), (∀ x ∈ l, -1 ≤ x ∧ x ≤ 9223372036854775807) → readRoots l.length (rootsL l ++ t) = some (l, t)
  | [], t, _ => by simp [readRoots, rootsL]
  | x :: l, t, h => by
    have hx := h x (by simp)
    have ih := readRoots_of l t (fun y hy => h y (List.mem_cons_of_mem _ hy))
    have e0 : rootsL (x :: l) ++ t = encL (x + 1).toNat ++ (rootsL l ++ t) := by simp [rootsL]
    have e1 := numV_enc (n := (x + 1).toNat) (by omega) (rootsL l ++ t)
    rw [e0, List.length_cons, readRoots, e1, if_neg (by simp only; omega)]
    simp only
    rw [← length_encL, List.drop_left, ih]
    have : ((x + 1).toNat : Int) - 1 = x := by omega
    rw [this]
theorem readRoots_back : ∀ (k : Nat) (r t : List Nat) (l : List Int), (∀ x ∈ r, x < 256) → readRoots k r = some (l, t) → r = rootsL l ++ t ∧ l.length = k ∧ ∀ x ∈ l, -1 ≤ x ∧ x ≤ 9223372036854775807
  | 0, r, t, l, hr, h => by
    simp only [readRoots, Option.some.injEq, Prod.mk.injEq] at h
    obtain ⟨rfl, rfl⟩ := h
    simp [rootsL]
  | k + 1, r, t, l, hr, h => by
    rw [readRoots] at h
    split at h
    · cases h
    · rename_i hn
      generalize hp : numV r = p at h hn
      obtain ⟨v, c, e⟩ := p
      simp only at h hn
      obtain rfl : e = 0 := by omega
      obtain ⟨h1, h2, h3⟩ := numV_back hr hp
      split at h
      · cases h
      · rename_i l' r' hl
        simp only [Option.some.injEq, Prod.mk.injEq] at h
        obtain ⟨rfl, rfl⟩ := h
        obtain ⟨i1, i2, i3⟩ := readRoots_back k (r.drop c) r' l' (fun x hx => hr x (List.mem_of_mem_drop hx)) hl
        refine ⟨?_, by simp [i2], ?_⟩
        · conv => lhs; rw [h1, i1]
          have : ((v : Int) - 1 + 1).toNat = v := by omega
          simp [rootsL, this]
        · intro x hx
          rcases List.mem_cons.1 hx with rfl | hx
          · omega
          · exact i3 x hx
theorem verL_app (base : Int) (l : List Int) (t : List Nat) : verL base l ++ t = encL base.toNat ++ (encL l.length ++ (rootsL l ++ t)) := by simp [verL]
/-- What a version's bytes with others behind are read as. -/
theorem verR_of (base : Nat) (l : List Int) (t : List Nat) (hb : base ≤ 9223372036854775807) (h0 : l ≠ []) (h1 : l.length ≤ 4096) (hl : ∀ x ∈ l, -1 ≤ x ∧ x ≤ 9223372036854775807) :
    verR (verL base l ++ t) = if t = [] then some (base, l) else none := by
  have e1 := numV_enc (n := base) (by omega) (encL l.length ++ (rootsL l ++ t))
  have e2 := numV_enc (n := l.length) (by omega) (rootsL l ++ t)
  have hp : 0 < l.length := List.length_pos_iff.2 h0
  rw [verL_app, Int.toNat_natCast]
  unfold verR
  rw [e1]
  simp only [ne_eq, not_true_eq_false, if_false]
  rw [← length_encL base, List.drop_left, e2]
  simp only [ne_eq, not_true_eq_false, false_or]
  rw [if_neg (by omega), ← length_encL l.length, List.drop_left, readRoots_of l t hl]
  cases t <;> simp
theorem verR_back {r : List Nat} {base : Nat} {l : List Int} (hr : ∀ x ∈ r, x < 256) (h : verR r = some (base, l)) :
    r = verL base l ∧ base ≤ 9223372036854775807 ∧ l ≠ [] ∧ l.length ≤ 4096 ∧ ∀ x ∈ l, -1 ≤ x ∧ x ≤ 9223372036854775807 := by
  unfold verR at h
  generalize hp : numV r = p at h
  obtain ⟨v, c, e⟩ := p
  simp only at h
  split at h
  · cases h
  · rename_i he
    obtain rfl : e = 0 := by omega
    obtain ⟨h1, h2, h3⟩ := numV_back hr hp
    have hr2 : ∀ x ∈ r.drop c, x < 256 := fun x hx => hr x (List.mem_of_mem_drop hx)
    generalize hq : numV (r.drop c) = q at h
    obtain ⟨n, c2, e2⟩ := q
    simp only at h
    split at h
    · cases h
    · rename_i hn
      obtain rfl : e2 = 0 := by omega
      obtain ⟨g1, g2, g3⟩ := numV_back hr2 hq
      split at h
      · rename_i l' hl
        simp only [Option.some.injEq, Prod.mk.injEq] at h
        obtain ⟨rfl, rfl⟩ := h
        obtain ⟨i1, i2, i3⟩ := readRoots_back _ _ _ _ (fun x hx => hr2 x (List.mem_of_mem_drop hx)) hl
        refine ⟨?_, by omega, by intro h; subst h; simp at i2; omega, by omega, i3⟩
        conv => lhs; rw [h1, g1, i1]
        simp [verL, i2]
      · cases h
end Go.Proofs.Ytjcafonoiaiacaa
