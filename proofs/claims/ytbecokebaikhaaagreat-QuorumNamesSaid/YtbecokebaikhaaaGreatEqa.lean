/-
  E, seventeenth text, first part: states replayed; what comes before what; operations look at their own slots alone.
-/
import Derived.Test.YtbecokebaikhaaaGreatEr
namespace Go.E
open Go Go.RowKit Go.V
set_option linter.unusedVariables false
set_option linter.unusedSimpArgs false
universe u v

/-! What is there when some of the steps have been taken, each leaving what it leaves in its own place. -/
def rep {κ : Type u} {β : Type v} (c : κ → β) (wr : Nat → κ → Option β) (S : Nat → Bool) : Nat → κ → β
  | 0, k => c k
  | n + 1, k => match S n, wr n k with
    | true, some v => v
    | _, _ => rep c wr S n k
section rep
variable {κ : Type u} {β : Type v} {c : κ → β} {wr : Nat → κ → Option β} {S : Nat → Bool}
theorem rep_skip {n : Nat} {k : κ} (h : S n = true → wr n k = none) : rep c wr S (n + 1) k = rep c wr S n k := by
  show (match S n, wr n k with | true, some v => v | _, _ => rep c wr S n k) = _
  cases hs : S n with
  | false => rfl
  | true => rw [h hs]
theorem rep_take {n : Nat} {k : κ} {v : β} (hs : S n = true) (h : wr n k = some v) : rep c wr S (n + 1) k = v := by
  show (match S n, wr n k with | true, some v => v | _, _ => rep c wr S n k) = _
  rw [hs, h]
theorem rep_none {n : Nat} {k : κ} (h : wr n k = none) : rep c wr S (n + 1) k = rep c wr S n k := rep_skip fun _ => h
theorem rep_read {i N : Nat} {k : κ} (hi : i ≤ N) (h : ∀ j, j < N → wr j k ≠ none → (j < i → S j = true) ∧ (i ≤ j → S j = false)) : rep c wr S N k = rep c wr (fun _ => true) i k := by
  induction N with
  | zero => have : i = 0 := by omega
            subst this; rfl
  | succ N ih =>
    rcases Nat.lt_or_ge N i with hN | hN
    · have e : i = N + 1 := by omega
      subst e
      clear ih
      have low : ∀ m, m ≤ N + 1 → rep c wr S m k = rep c wr (fun _ => true) m k := by
        intro m
        induction m with
        | zero => intro _; rfl
        | succ m ihm =>
          intro hm
          have ihm := ihm (by omega)
          cases hw : wr m k with
          | none => rw [rep_none hw, rep_none hw, ihm]
          | some v => rw [rep_take ((h m (by omega) (by rw [hw]; simp)).1 (by omega)) hw, rep_take rfl hw]
      exact low _ (Nat.le_refl _)
    · rw [rep_skip fun hs => ?_]
      · exact ih hN fun j hj => h j (by omega)
      · cases hw : wr N k with
        | none => rfl
        | some v =>
          have := (h N (by omega) (by rw [hw]; simp)).2 hN
          rw [this] at hs; cases hs
def plus (S : Nat → Bool) (i : Nat) : Nat → Bool := fun j => S j || Nat.beq j i
theorem plus_self (S : Nat → Bool) (i : Nat) : plus S i i = true := by simp [plus]
theorem plus_ne {S : Nat → Bool} {i j : Nat} (h : j ≠ i) : plus S i j = S j := by
  have : Nat.beq j i = false := by cases hb : Nat.beq j i with | false => rfl | true => exact absurd (Nat.eq_of_beq_eq_true hb) h
  simp [plus, this]
theorem plus_or {S : Nat → Bool} {i j : Nat} (h : plus S i j = true) : S j = true ∨ j = i := by
  by_cases hj : j = i
  · exact .inr hj
  · rw [plus_ne hj] at h; exact .inl h
theorem rep_put {i N : Nat} {k : κ} (hi : i < N) (hS : S i = false) (h : ∀ j, i < j → j < N → wr j k ≠ none → wr i k ≠ none → S j = false) : rep c wr (plus S i) N k = (wr i k).getD (rep c wr S N k) := by
  have low : ∀ m, m ≤ i → rep c wr (plus S i) m k = rep c wr S m k := by
    intro m
    induction m with
    | zero => intro _; rfl
    | succ m ih =>
      intro hm
      show (match plus S i m, wr m k with | true, some v => v | _, _ => rep c wr (plus S i) m k) = (match S m, wr m k with | true, some v => v | _, _ => rep c wr S m k)
      rw [plus_ne (by omega), ih (by omega)]
  have key : ∀ m, i + 1 + m ≤ N → rep c wr (plus S i) (i + 1 + m) k = (wr i k).getD (rep c wr S (i + 1 + m) k) := by
    intro m
    induction m with
    | zero =>
      intro _
      show rep c wr (plus S i) (i + 1) k = (wr i k).getD (rep c wr S (i + 1) k)
      rw [rep_skip (S := S) (n := i) fun hs => by rw [hS] at hs; cases hs]
      cases hw : wr i k with
      | none => rw [rep_none hw, low i (Nat.le_refl _)]; rfl
      | some v => rw [rep_take (plus_self S i) hw]; rfl
    | succ m ih =>
      intro hm
      have ih := ih (by omega)
      show rep c wr (plus S i) ((i + 1 + m) + 1) k = (wr i k).getD (rep c wr S ((i + 1 + m) + 1) k)
      cases hw : wr (i + 1 + m) k with
      | none => rw [rep_none hw, rep_none hw, ih]
      | some v =>
        cases hs : S (i + 1 + m) with
        | false => rw [rep_skip (fun h => by rw [plus_ne (by omega), hs] at h; cases h), rep_skip (fun h => by rw [hs] at h; cases h), ih]
        | true =>
          cases hwi : wr i k with
          | none =>
            rw [rep_take (by rw [plus_ne (by omega), hs]) hw, rep_take hs hw]; rfl
          | some u =>
            have := h (i + 1 + m) (by omega) (by omega) (by rw [hw]; simp) (by rw [hwi]; simp)
            rw [this] at hs; cases hs
  have := key (N - (i + 1)) (by omega)
  rwa [show i + 1 + (N - (i + 1)) = N by omega] at this
theorem rep_all {N : Nat} {k : κ} (h : ∀ j, j < N → S j = true) : rep c wr S N k = rep c wr (fun _ => true) N k := rep_read (Nat.le_refl _) fun j hj _ => ⟨fun _ => h j hj, fun h2 => by omega⟩
end rep

/-! What comes before what. -/
def mask (os : List Oper) (i : Nat) : Nat := (befs os []).getD i 0
def mOf (o : Oper) (acc : List Nat) : Nat := o.after.toList.foldl (fun s e => bif Region.binds .any e then Nat.lor s (Nat.lor (Nat.pow 2 e.on) (acc.getD e.on 0)) else s) 0
theorem befs_cons (o : Oper) (os : List Oper) (acc : List Nat) : befs (o :: os) acc = befs os (acc ++ [mOf o acc]) := rfl
theorem befs_take : ∀ (os : List Oper) (acc : List Nat), (befs os acc).take acc.length = acc ∧ (befs os acc).length = acc.length + os.length
  | [], acc => ⟨List.take_length, rfl⟩
  | o :: os, acc => by
    obtain ⟨h1, h2⟩ := befs_take os (acc ++ [mOf o acc])
    rw [befs_cons]
    refine ⟨?_, by rw [h2]; simp; omega⟩
    have := congrArg (List.take acc.length) h1
    rw [List.take_take] at this
    simpa using this
theorem befs_at : ∀ (os : List Oper) (acc : List Nat) (j : Nat) (o : Oper), os[j]? = some o → (befs os acc)[acc.length + j]? = some (mOf o ((befs os acc).take (acc.length + j)))
  | [], acc, j, o, h => by simp at h
  | p :: os, acc, j, o, h => by
    rw [befs_cons]
    cases j with
    | zero =>
      simp only [List.getElem?_cons_zero, Option.some.injEq] at h
      subst h
      obtain ⟨h1, h2⟩ := befs_take os (acc ++ [mOf p acc])
      have h3 := congrArg (List.take acc.length) h1
      rw [List.take_take] at h3
      have h4 : (befs os (acc ++ [mOf p acc])).take acc.length = acc := by simpa using h3
      rw [Nat.add_zero, h4]
      have h5 := congrArg (fun l => l[acc.length]?) h1
      simp only [List.getElem?_take] at h5
      simpa using h5
    | succ j =>
      have := befs_at os (acc ++ [mOf p acc]) j o (by simpa using h)
      rw [show (acc ++ [mOf p acc]).length + j = acc.length + (j + 1) by simp; omega] at this
      exact this
theorem bit_lor (a b j : Nat) : bit (Nat.lor a b) j = (bit a j || bit b j) := by
  have e : ∀ a j, bit a j = a.testBit j := by
    intro a j
    show Nat.beq ((a >>> j) % 2) 1 = (1 &&& (a >>> j) != 0)
    rw [Nat.and_comm, Nat.and_one_is_mod]
    rcases Nat.mod_two_eq_zero_or_one (a >>> j) with h | h <;> rw [h] <;> rfl
  rw [e, e, e]
  exact Nat.testBit_or a b j
theorem bit_pow (i j : Nat) : bit (Nat.pow 2 i) j = true ↔ i = j := by
  have e : ∀ a j, bit a j = a.testBit j := by
    intro a j
    show Nat.beq ((a >>> j) % 2) 1 = (1 &&& (a >>> j) != 0)
    rw [Nat.and_comm, Nat.and_one_is_mod]
    rcases Nat.mod_two_eq_zero_or_one (a >>> j) with h | h <;> rw [h] <;> rfl
  rw [e]
  show (2 ^ i).testBit j = true ↔ _
  rw [Nat.testBit_two_pow]
  simp
theorem bit_zero (j : Nat) : bit 0 j = false := by
  show Nat.beq ((0 >>> j) % 2) 1 = false
  rw [Nat.zero_shiftRight]; rfl
theorem mOf_bit (acc : List Nat) (j : Nat) : ∀ (es : List Edge) (s : Nat), bit (es.foldl (fun s e => bif Region.binds .any e then Nat.lor s (Nat.lor (Nat.pow 2 e.on) (acc.getD e.on 0)) else s) s) j = true →
    bit s j = true ∨ ∃ e ∈ es, Region.binds .any e = true ∧ (e.on = j ∨ bit (acc.getD e.on 0) j = true)
  | [], s, h => .inl h
  | e :: es, s, h => by
    rcases mOf_bit acc j es _ h with h1 | ⟨e', he, hb, h2⟩
    · simp only at h1
      cases hb : Region.binds .any e with
      | true =>
        rw [hb, cond_true, bit_lor, bit_lor, Bool.or_eq_true, Bool.or_eq_true] at h1
        rcases h1 with h1 | h1 | h1
        · exact .inl h1
        · exact .inr ⟨e, by simp, hb, .inl ((bit_pow _ _).1 h1)⟩
        · exact .inr ⟨e, by simp, hb, .inr h1⟩
      | false => rw [hb, cond_false] at h1; exact .inl h1
    · exact .inr ⟨e', by simp [he], hb, h2⟩
theorem mask_bit {os : List Oper} {i j : Nat} {o : Oper} (ho : os[i]? = some o) (h : bit (mask os i) j = true) : ∃ e ∈ o.after.toList, Region.binds .any e = true ∧ (e.on = j ∨ (e.on < i ∧ bit (mask os e.on) j = true)) := by
  have h1 := befs_at os [] i o ho
  simp only [List.length_nil, Nat.zero_add] at h1
  have h2 : mask os i = mOf o ((befs os []).take i) := by
    unfold mask
    rw [List.getD_eq_getElem?_getD, h1]; rfl
  rw [h2] at h
  rcases mOf_bit _ j _ _ h with h | ⟨e, he, hb, h3 | h3⟩
  · rw [bit_zero] at h; cases h
  · exact ⟨e, he, hb, .inl h3⟩
  · refine ⟨e, he, hb, .inr ?_⟩
    rw [List.getD_eq_getElem?_getD, List.getElem?_take] at h3
    split at h3
    · rename_i hlt
      refine ⟨hlt, ?_⟩
      unfold mask
      rw [List.getD_eq_getElem?_getD]
      exact h3
    · rw [Option.getD_none, bit_zero] at h3; cases h3
theorem rows_at {os : List Oper} {i : Nat} {o : Oper} (ho : os[i]? = some o) : (rows os)[i]? = some (i, mask os i, o) := by
  have hlt : i < os.length := by
    rcases Nat.lt_or_ge i os.length with h | h
    · exact h
    · rw [List.getElem?_eq_none h] at ho; cases ho
  have h1 := (befs_take os []).2
  simp only [List.length_nil, Nat.zero_add] at h1
  unfold rows mask
  rw [List.getElem?_zip_eq_some]
  refine ⟨by rw [List.getElem?_range hlt], ?_⟩
  rw [List.getElem?_zip_eq_some]
  refine ⟨?_, ho⟩
  simp only
  rw [List.getD_eq_getElem?_getD, List.getElem?_eq_getElem (by omega)]
  rfl
theorem rows_len (os : List Oper) : (rows os).length = os.length := by
  have h1 := (befs_take os []).2
  simp only [List.length_nil, Nat.zero_add] at h1
  simp [rows, h1]
theorem rows_mem {os : List Oper} {x : Nat × Nat × Oper} (h : x ∈ rows os) : os[x.1]? = some x.2.2 ∧ x.2.1 = mask os x.1 := by
  obtain ⟨j, hj⟩ := List.mem_iff_getElem?.1 h
  have hlt : j < os.length := by
    rcases Nat.lt_or_ge j os.length with h | h
    · exact h
    · rw [List.getElem?_eq_none (by rw [rows_len]; exact h)] at hj; cases hj
  have ho : os[j]? = some os[j] := List.getElem?_eq_getElem hlt
  rw [rows_at ho] at hj
  cases hj
  exact ⟨ho, rfl⟩
structure Slots (os : List Oper) : Prop where
  back : ∀ i o, os[i]? = some o → ∀ e ∈ o.after.toList, Region.binds .any e = true → e.on < i
  grd : ∀ i o j want, os[i]? = some o → o.guard = some (j, want) → bit (mask os i) j = true ∧ ∃ p s, os[j]? = some p ∧ p.dst = some s
  ord : ∀ i o j p d, os[i]? = some o → os[j]? = some p → i ≠ j → p.dst = some d → (d ∈ tmpsOf os o ∨ o.dst = some d) → ordB i (mask os i) j (mask os j) = true
theorem slotsB_ok {os : List Oper} (h : slotsB os = true) : Slots os := by
  unfold slotsB at h
  have h := List.all_eq_true.1 h
  have at' : ∀ i o, os[i]? = some o → _ := fun i o ho => h _ (List.mem_of_getElem? (rows_at ho))
  refine ⟨fun i o ho e he hb => ?_, fun i o j want ho hg => ?_, fun i o j p d ho hp hij hd hm => ?_⟩
  · have := at' i o ho
    simp only [Bool.and_eq_true] at this
    have := List.all_eq_true.1 this.1.1 e he
    rw [hb] at this
    exact Nat.le_of_ble_eq_true this
  · have := at' i o ho
    simp only [Bool.and_eq_true] at this
    have := this.1.2
    rw [hg] at this
    simp only at this
    obtain ⟨h1, h2⟩ := two_t this
    refine ⟨h1, ?_⟩
    split at h2
    · rename_i p hp
      obtain ⟨s, hs⟩ := Option.isSome_iff_exists.1 h2
      exact ⟨p, s, hp, hs⟩
    · cases h2
  · have := at' i o ho
    simp only [Bool.and_eq_true] at this
    have := List.all_eq_true.1 this.2 _ (List.mem_of_getElem? (rows_at hp))
    have hb : Nat.beq i j = false := by cases hb : Nat.beq i j with | false => rfl | true => exact absurd (Nat.eq_of_beq_eq_true hb) hij
    simp only [hb, cond_false, hd] at this
    have hm' : ((tmpsOf os o ++ o.dst.toList).any (Nat.beq d)) = true := by
      rw [List.any_eq_true]
      refine ⟨d, ?_, Nat.beq_refl d⟩
      rw [List.mem_append]
      rcases hm with hm | hm
      · exact .inl hm
      · exact .inr (by rw [hm]; simp)
    rw [hm', cond_true] at this
    exact this
theorem Slots.low {os : List Oper} (h : Slots os) : ∀ i o, os[i]? = some o → ∀ j, bit (mask os i) j = true → j < i := by
  intro i
  induction i using Nat.strongRecOn with
  | _ i ih =>
    intro o ho j hb
    obtain ⟨e, he, hbi, h1 | ⟨h1, h2⟩⟩ := mask_bit ho hb
    · rw [← h1]; exact h.back i o ho e he hbi
    · have hlt : i < os.length := by
        rcases Nat.lt_or_ge i os.length with h | h
        · exact h
        · rw [List.getElem?_eq_none h] at ho; cases ho
      have := ih e.on h1 os[e.on] (List.getElem?_eq_getElem (by omega)) j h2
      omega
end Go.E
