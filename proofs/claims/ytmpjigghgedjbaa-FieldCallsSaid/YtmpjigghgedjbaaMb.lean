/-
  The plain mathematics of the field: powers, inverses, roots.
-/
import Derived.Test.YtmpjigghgedjbaaMa
import Derived.Test.YtmpjigghgedjbaaFj
namespace Go.Proofs.Ytmpjigghgedjbaa
open Go Go.N
set_option linter.unusedVariables false
set_option linter.unusedSimpArgs false
theorem prime25519 : IsP p25519 := prime_p
theorem pw_mod (a e : Nat) : pw (a % p25519) e = pw a e := by rw [pw_def, pw_def, ← Nat.pow_mod]
theorem pw_add (a m n : Nat) : pw a m * pw a n % p25519 = pw a (m + n) := by rw [pw_def, pw_def, pw_def, ← Nat.mul_mod, Nat.pow_add]
theorem pw_pow (a m k : Nat) : pw (pw a m) k = pw a (m * k) := by rw [pw_def a m, pw_mod, pw_def, pw_def, Nat.pow_mul]
theorem pw_mul (a b e : Nat) : pw (a * b) e = pw a e * pw b e % p25519 := by rw [pw_def, pw_def, pw_def, ← Nat.mul_mod, Nat.mul_pow]
theorem pw_zero (a : Nat) : pw a 0 = 1 := by rw [pw_def, Nat.pow_zero]; rfl
theorem pw_one (a : Nat) : pw a 1 = a % p25519 := by rw [pw_def, Nat.pow_one]
theorem pw_succ (a e : Nat) : pw a e * a % p25519 = pw a (e + 1) := by rw [pw_def, pw_def, Nat.mod_mul_mod, Nat.pow_succ]
theorem pw_mod' (a e : Nat) : pw a e % p25519 = pw a e := Nat.mod_eq_of_lt (pw_lt a e)
theorem pw_null {a e : Nat} (h : a % p25519 = 0) (he : 0 < e) : pw a e = 0 := by rw [← pw_mod, h, pw_def, Nat.zero_pow he]; rfl
theorem fermat_p {a : Nat} (h : a % p25519 ≠ 0) : pw a (p25519 - 1) = 1 := by
  rw [pw_def]
  exact prime25519.fermat fun hd => h (Nat.mod_eq_zero_of_dvd hd)
theorem fermat {a : Nat} (h : a % p25519 ≠ 0) : pw a 57896044618658097711785492504343953926634992332820282019728792003956564819948 = 1 := by
  have h1 := fermat_p h
  rwa [show p25519 - 1 = 57896044618658097711785492504343953926634992332820282019728792003956564819948 from rfl] at h1
theorem inv_mul {a : Nat} (h : a % p25519 ≠ 0) : pw a 57896044618658097711785492504343953926634992332820282019728792003956564819947 * a % p25519 = 1 := by
  rw [pw_succ]; exact fermat h
theorem inv_inv {a : Nat} (h : a % p25519 ≠ 0) : pw (pw a 57896044618658097711785492504343953926634992332820282019728792003956564819947) 57896044618658097711785492504343953926634992332820282019728792003956564819947 = a % p25519 := by
  have h1 := inv_mul h
  generalize pw a 57896044618658097711785492504343953926634992332820282019728792003956564819947 = i at *
  have hi : i % p25519 ≠ 0 := by
    intro h0
    rw [Nat.mul_mod, h0, Nat.zero_mul, Nat.zero_mod] at h1
    omega
  have h2 := inv_mul hi
  have h3 : pw i 57896044618658097711785492504343953926634992332820282019728792003956564819947 % p25519 = pw i 57896044618658097711785492504343953926634992332820282019728792003956564819947 := pw_mod' _ _
  generalize pw i 57896044618658097711785492504343953926634992332820282019728792003956564819947 = x at *
  have e1 : x * (i * a) % p25519 = x := by rw [Nat.mul_mod, h1, Nat.mul_one, Nat.mod_mod, h3]
  have e2 : x * (i * a) % p25519 = a % p25519 := by rw [← Nat.mul_assoc, Nat.mul_mod, h2, Nat.one_mul, Nat.mod_mod]
  rw [← e1, e2]

/-- Of a product that is 0 one factor is 0. -/
theorem mul_null {x y : Nat} (h : x * y % p25519 = 0) : x % p25519 = 0 ∨ y % p25519 = 0 :=
  (prime25519.euclid (Nat.dvd_of_mod_eq_zero h)).imp Nat.mod_eq_zero_of_dvd Nat.mod_eq_zero_of_dvd
theorem sq_eq_aux {x y : Nat} (hle : y ≤ x) (h : x * x % p25519 = y * y % p25519) : x % p25519 = y % p25519 ∨ (x + y) % p25519 = 0 := by
  have e : x * x - y * y = (x + y) * (x - y) := Nat.mul_self_sub_mul_self_eq x y
  have h1 : (x + y) * (x - y) % p25519 = 0 := by rw [← e]; exact Nat.sub_mod_eq_zero_of_mod_eq h
  rcases mul_null h1 with h2 | h2
  · exact Or.inr h2
  · refine Or.inl ?_
    have : x = (x - y) + y := by omega
    rw [this, Nat.add_mod, h2, Nat.zero_add, Nat.mod_mod]
theorem sq_eq {x y : Nat} (h : x * x % p25519 = y * y % p25519) : x % p25519 = y % p25519 ∨ (x + y) % p25519 = 0 := by
  rcases Nat.le_total y x with hle | hle
  · exact sq_eq_aux hle h
  · rcases sq_eq_aux hle h.symm with h1 | h1
    · exact Or.inl h1.symm
    · exact Or.inr (by rw [Nat.add_comm]; exact h1)
theorem sq_one {x : Nat} (hx : x < p25519) (h : x * x % p25519 = 1) : x = 1 ∨ x = 57896044618658097711785492504343953926634992332820282019728792003956564819948 := by
  rcases sq_eq (x := x) (y := 1) h with h1 | h1
  · left; rw [Nat.mod_eq_of_lt hx] at h1; exact h1
  · right
    unfold p25519 at *
    omega
def half : Nat := 28948022309329048855892746252171976963317496166410141009864396001978282409974
theorem chi {s : Nat} (h : s % p25519 ≠ 0) : pw s half = 1 ∨ pw s half = 57896044618658097711785492504343953926634992332820282019728792003956564819948 := by
  refine sq_one (pw_lt _ _) ?_
  rw [pw_add]
  exact fermat h
theorem chi_2 : pw 2 half = 57896044618658097711785492504343953926634992332820282019728792003956564819948 := by
  rw [pw_def, ← pm_eq p25519 256 2 half (by decide)]
  exact Nat.eq_of_beq_eq_true (by kernel_rfl)
theorem rootB_lt (s : Nat) : rootB s < p25519 := by
  unfold rootB
  split
  · exact pw_lt _ _
  · exact Nat.mod_lt _ (by decide)
theorem has_of_chi {s : Nat} (h : s % p25519 ≠ 0) (hc : pw s half = 1) : hasRoot s := by
  unfold hasRoot
  rw [Nat.mod_mod]
  have hA : rootA s * rootA s % p25519 = s * pw s 14474011154664524427946373126085988481658748083205070504932198000989141204987 % p25519 := by
    unfold rootA
    rw [pw_add, Nat.mul_comm s, pw_succ]
  have ht : pw s 14474011154664524427946373126085988481658748083205070504932198000989141204987 * pw s 14474011154664524427946373126085988481658748083205070504932198000989141204987 % p25519 = 1 := by rw [pw_add]; exact hc
  by_cases hr : rootA s * rootA s % p25519 % p25519 = s % p25519
  · rw [show rootB s = rootA s from if_pos hr]
    rw [Nat.mod_mod] at hr
    exact hr
  · rw [show rootB s = rootA s * pw 2 14474011154664524427946373126085988481658748083205070504932198000989141204987 % p25519 from if_neg hr]
    rcases sq_one (pw_lt _ _) ht with h1 | h1
    · exfalso
      apply hr
      rw [Nat.mod_mod, hA, h1, Nat.mul_one]
    · have hi : pw 2 14474011154664524427946373126085988481658748083205070504932198000989141204987 * pw 2 14474011154664524427946373126085988481658748083205070504932198000989141204987 % p25519 = 57896044618658097711785492504343953926634992332820282019728792003956564819948 := by rw [pw_add]; exact chi_2
      generalize pw 2 14474011154664524427946373126085988481658748083205070504932198000989141204987 = i at *
      generalize rootA s = r at *
      rw [h1] at hA
      have e : (r * i) * (r * i) = (r * r) * (i * i) := by grind
      rw [← Nat.mul_mod, e, Nat.mul_mod, hA, hi, Nat.mod_mul_mod, Nat.mul_assoc, Nat.mul_mod]
      have : (57896044618658097711785492504343953926634992332820282019728792003956564819948 * 57896044618658097711785492504343953926634992332820282019728792003956564819948) % p25519 = 1 := by decide
      rw [this, Nat.mul_one, Nat.mod_mod]
theorem chi_of_has {s : Nat} (h : s % p25519 ≠ 0) (hr : hasRoot s) : pw s half = 1 := by
  unfold hasRoot at hr
  rw [Nat.mod_mod] at hr
  have hb : rootB s % p25519 ≠ 0 := by
    intro h0
    rw [Nat.mul_mod, h0, Nat.zero_mul, Nat.zero_mod] at hr
    exact h hr.symm
  rw [← pw_mod, ← hr, pw_mod, pw_mul, pw_add]
  exact fermat hb
theorem has_iff {s : Nat} (h : s % p25519 ≠ 0) : hasRoot s ↔ pw s half = 1 := ⟨chi_of_has h, has_of_chi h⟩
theorem mul_ne {a b : Nat} (ha : a % p25519 ≠ 0) (hb : b % p25519 ≠ 0) : a * b % p25519 % p25519 ≠ 0 := by
  rw [Nat.mod_mod]
  intro h
  rcases mul_null h with h1 | h1
  · exact ha h1
  · exact hb h1
theorem has_sq {a : Nat} (ha : a % p25519 ≠ 0) : hasRoot (a * a % p25519) := by
  refine has_of_chi (mul_ne ha ha) ?_
  rw [pw_mod, pw_mul, pw_add]
  exact fermat ha
theorem has_two {a : Nat} (ha : a % p25519 ≠ 0) : ¬ hasRoot (2 * (a * a % p25519) % p25519) := by
  intro h
  have h2 := chi_of_has (mul_ne (by decide) (mul_ne ha ha)) h
  rw [pw_mod, pw_mul, pw_mod, pw_mul, pw_add, chi_2] at h2
  rw [show half + half = 57896044618658097711785492504343953926634992332820282019728792003956564819948 from rfl, fermat ha] at h2
  exact absurd h2 (by decide)
theorem has_mul {a b : Nat} (ha : a % p25519 ≠ 0) (hb : b % p25519 ≠ 0) : decide (hasRoot (a * b % p25519)) = (decide (hasRoot a) == decide (hasRoot b)) := by
  have hm : pw (a * b % p25519) half = pw a half * pw b half % p25519 := by rw [pw_mod, pw_mul]
  have h1 := has_iff (mul_ne ha hb)
  have h2 := has_iff ha
  have h3 := has_iff hb
  rw [hm] at h1
  rcases chi ha with ca | ca <;> rcases chi hb with cb | cb
  all_goals
    rw [ca, cb] at h1
    rw [ca] at h2
    rw [cb] at h3
  · rw [decide_eq_true (h1.2 (by decide)), decide_eq_true (h2.2 rfl), decide_eq_true (h3.2 rfl)]; rfl
  · rw [decide_eq_false (fun h => absurd (h1.1 h) (by decide)), decide_eq_true (h2.2 rfl), decide_eq_false (fun h => absurd (h3.1 h) (by decide))]; rfl
  · rw [decide_eq_false (fun h => absurd (h1.1 h) (by decide)), decide_eq_false (fun h => absurd (h2.1 h) (by decide)), decide_eq_true (h3.2 rfl)]; rfl
  · rw [decide_eq_true (h1.2 (by decide)), decide_eq_false (fun h => absurd (h2.1 h) (by decide)), decide_eq_false (fun h => absurd (h3.1 h) (by decide))]; rfl
/-- The one of a number and its negative that is not odd. -/
def evenOf (a : Nat) : Nat := if a % p25519 % 2 = 1 then (p25519 - a % p25519) % p25519 else a % p25519
theorem root_sq {a : Nat} (ha : a % p25519 ≠ 0) : rootC (a * a % p25519) = evenOf a := by
  have hh := has_sq ha
  have hsq : rootB (a * a % p25519) * rootB (a * a % p25519) % p25519 = (a % p25519) * (a % p25519) % p25519 := by
    have := hh
    unfold hasRoot at this
    rw [Nat.mod_mod, Nat.mod_mod] at this
    rw [this, Nat.mul_mod]
  have hlt := rootB_lt (a * a % p25519)
  have hy : a % p25519 < p25519 := Nat.mod_lt _ (by decide)
  unfold rootC evenOf
  rw [if_pos hh]
  generalize rootB (a * a % p25519) = x at *
  generalize a % p25519 = y at *
  have hc := sq_eq hsq
  rw [Nat.mod_eq_of_lt hlt, Nat.mod_eq_of_lt hy] at hc
  rw [Nat.mod_eq_of_lt hlt]
  unfold p25519 at *
  rcases hc with h1 | h1
  · subst h1; rfl
  · have h2 : x + y = 57896044618658097711785492504343953926634992332820282019728792003956564819949 := by omega
    split <;> split <;> omega
end Go.Proofs.Ytmpjigghgedjbaa
