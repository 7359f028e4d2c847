/-
  Octets, plain: what number writes, Number reads back, and the other way round.
-/
import Derived.Test.YtjcafonoiaiacaaOg
namespace Go.Proofs.Ytjcafonoiaiacaa
set_option linter.unusedSimpArgs false
set_option linter.unusedVariables false
set_option maxRecDepth 100000 in
theorem head_fact : ∀ (s : Fin 10) (low : Fin 256), 1 ≤ s.1 → low.1 < 2 ^ (8 - s.1) →
    cnt ((255 * 2 ^ (9 - s.1) % 256) ||| low.1) = s.1 ∧ ((255 * 2 ^ (9 - s.1) % 256) ||| low.1) &&& (255 / 2 ^ s.1) = low.1 := by decide +kernel
set_option maxRecDepth 100000 in
theorem head_back : ∀ f : Fin 256, (255 * 2 ^ (9 - cnt f.1) % 256) ||| (f.1 &&& (255 / 2 ^ cnt f.1)) = f.1 ∧ f.1 &&& (255 / 2 ^ cnt f.1) < 2 ^ (8 - cnt f.1) := by decide +kernel
theorem p256 (j : Nat) : 2 ^ (8 * (j + 1)) = 2 ^ (8 * j) * 256 := by rw [show 8 * (j + 1) = 8 * j + 8 by omega, Nat.pow_add]
theorem fold_big {n : Nat} (hn : n < 18446744073709551616) : ∀ j, (big n j).foldl stepN (n / 2 ^ (8 * j)) = n
  | 0 => by simp [big]
  | j + 1 => by
    have h := fold_big hn j
    simp only [big, List.foldl_cons]
    have hx : n / 2 ^ (8 * j) ≤ n := Nat.div_le_self _ _
    have e : stepN (n / 2 ^ (8 * (j + 1))) (n / 2 ^ (8 * j) % 256) = n / 2 ^ (8 * j) := by
      unfold stepN
      rw [p256, ← Nat.div_div_eq_div_mul]
      generalize n / 2 ^ (8 * j) = x at *
      omega
    rw [e]
    exact h
theorem lt_of_bl {a k : Nat} (h : bl a ≤ k) : a < 2 ^ k := by
  rcases Nat.lt_or_ge a (2 ^ k) with h1 | h1
  · exact h1
  · have := bl_gt h1; omega
theorem low_lt {n : Nat} (hn : n < 18446744073709551616) : n / 2 ^ (8 * (sz n - 1)) < 2 ^ (8 - sz n) := by
  have hs := sz_le n
  have hb : bl n ≤ 64 := bl_le (by show n < 18446744073709551616; exact hn)
  have hlt := lt_of_bl (Nat.le_refl (bl n))
  rw [Nat.div_lt_iff_lt_mul (Nat.two_pow_pos _), ← Nat.pow_add]
  refine Nat.lt_of_lt_of_le hlt (Nat.pow_le_pow_right (by decide) ?_)
  unfold sz at *
  omega
theorem numV_enc {n : Nat} (hn : n < 18446744073709551616) (r : List Nat) : numV (encL n ++ r) = (n, sz n, 0) := by
  have hs := sz_le n
  have hl := low_lt hn
  have hl2 : n / 2 ^ (8 * (sz n - 1)) < 256 := Nat.lt_of_lt_of_le hl (by rw [show (256 : Nat) = 2 ^ 8 by decide]; exact Nat.pow_le_pow_right (by decide) (by omega))
  obtain ⟨h1, h2⟩ := head_fact ⟨sz n, by omega⟩ ⟨_, hl2⟩ hs.1 hl
  simp only at h1 h2
  have eh : head1 n (sz n) = (255 * 2 ^ (9 - sz n) % 256) ||| (n / 2 ^ (8 * (sz n - 1))) := by unfold head1; rw [Nat.mod_eq_of_lt hl2]
  have hlen := length_big n (sz n - 1)
  simp only [encL, List.cons_append, numV, eh, h1]
  rw [if_neg (by simp [hlen])]
  have et : (big n (sz n - 1) ++ r).take (sz n - 1) = big n (sz n - 1) := by
    conv => lhs; rw [← hlen]
    rw [hlen]; exact List.take_left' hlen
  rw [et, h2, fold_big hn, if_pos rfl]
theorem big_fold : ∀ (R : List Nat) (low : Nat), (low + 1) * 2 ^ (8 * R.length) ≤ 18446744073709551616 → (∀ x ∈ R, x < 256) →
    big (R.foldl stepN low) R.length = R ∧ R.foldl stepN low / 2 ^ (8 * R.length) = low
  | [], low, _, _ => by simp [big]
  | x :: R, low, h, hR => by
    have hx := hR x (by simp)
    simp only [List.length_cons, p256] at h ⊢
    have hp := Nat.two_pow_pos (8 * R.length)
    have h1 : (low + 1) * 256 * 2 ^ (8 * R.length) ≤ 18446744073709551616 := by rw [Nat.mul_assoc, Nat.mul_comm 256]; exact h
    have h2 : (low * 256 + x + 1) * 2 ^ (8 * R.length) ≤ 18446744073709551616 := Nat.le_trans (Nat.mul_le_mul_right _ (by omega)) h1
    have h3 : (low + 1) * 256 ≤ 18446744073709551616 := Nat.le_trans (Nat.le_mul_of_pos_right _ hp) h1
    have es : stepN low x = low * 256 + x := by unfold stepN; omega
    obtain ⟨i1, i2⟩ := big_fold R (low * 256 + x) h2 (fun y hy => hR y (List.mem_cons_of_mem _ hy))
    simp only [List.foldl_cons, es]
    refine ⟨?_, ?_⟩
    · rw [big, i2, i1]
      congr 1
      omega
    · rw [← Nat.div_div_eq_div_mul, i2]
      omega
theorem numV_back {r : List Nat} {v k : Nat} (hr : ∀ x ∈ r, x < 256) (h : numV r = (v, k, 0)) : r = encL v ++ r.drop k ∧ k = sz v ∧ v < 18446744073709551616 := by
  cases r with
  | nil => simp [numV] at h
  | cons f t =>
    have hf := hr f (by simp)
    have hc := cnt_bd (f := f)
    obtain ⟨h1, h2⟩ := head_back ⟨f, hf⟩
    simp only at h1 h2
    simp only [numV] at h
    split at h
    · simp at h
    · rename_i hs
      split at h
      · rename_i hz
        simp only [Prod.mk.injEq, and_true] at h
        obtain ⟨hv, hk⟩ := h
        have hlen : (t.take (cnt f - 1)).length = cnt f - 1 := by simp; omega
        have hR : ∀ x ∈ t.take (cnt f - 1), x < 256 := fun x hx => hr x (List.mem_cons_of_mem _ (List.mem_of_mem_take hx))
        have hlow : f &&& (255 / 2 ^ cnt f) < 256 := Nat.lt_of_le_of_lt Nat.and_le_left hf
        have hfit : (f &&& (255 / 2 ^ cnt f)) + 1 ≤ 2 ^ (8 - cnt f) := h2
        obtain ⟨b1, b2⟩ := big_fold (t.take (cnt f - 1)) (f &&& (255 / 2 ^ cnt f)) (by
          rw [hlen]
          refine Nat.le_trans (Nat.mul_le_mul_right _ hfit) ?_
          rw [← Nat.pow_add]
          exact Nat.pow_le_pow_right (n := 2) (j := 64) (by decide) (by omega)) hR
        have hlt := fold_lt (t.take (cnt f - 1)) (f &&& (255 / 2 ^ cnt f)) (by omega) hR
        rw [hv] at b1 b2 hz hlt
        rw [hlen] at b1 b2
        refine ⟨?_, by omega, hlt⟩
        subst hk
        have e1 : encL v = f :: t.take (cnt f - 1) := by
          unfold encL head1
          rw [hz, b1, b2, Nat.mod_eq_of_lt hlow, h1]
        rw [e1]
        obtain ⟨m, hm⟩ : ∃ m, cnt f = m + 1 := ⟨cnt f - 1, by omega⟩
        rw [hm]
        simp
      · simp at h
end Go.Proofs.Ytjcafonoiaiacaa
