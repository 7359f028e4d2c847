import Derived.Test.YtmpjigghgedjbaaBe
import Derived.Test.YtmpjigghgedjbaaBg
import Derived.Test.YtmpjigghgedjbaaBd
set_option linter.unusedSimpArgs false
set_option linter.unusedVariables false
set_option linter.unusedSectionVars false
namespace Go.Proofs.Ytmpjigghgedjbaa
open Go Go.N
theorem prime25519 : IsP p25519 := prime_p
theorem pw_mod (a e : Nat) : pw (a % p25519) e = pw a e := by rw [pw_def, pw_def, ← Nat.pow_mod]
theorem pw_add (a m n : Nat) : pw a m * pw a n % p25519 = pw a (m + n) := by rw [pw_def, pw_def, pw_def, ← Nat.mul_mod, Nat.pow_add]
theorem pw_pow (a m k : Nat) : pw (pw a m) k = pw a (m * k) := by rw [pw_def a m, pw_mod, pw_def, pw_def, Nat.pow_mul]
theorem pw_mul (a b e : Nat) : pw (a * b) e = pw a e * pw b e % p25519 := by rw [pw_def, pw_def, pw_def, ← Nat.mul_mod, Nat.mul_pow]
theorem pw_zero (a : Nat) : pw a 0 = 1 := by rw [pw_def, Nat.pow_zero]; rfl
theorem pw_one (a : Nat) : pw a 1 = a % p25519 := by rw [pw_def, Nat.pow_one]
theorem pw_succ (a e : Nat) : pw a e * a % p25519 = pw a (e + 1) := by rw [pw_def, pw_def, Nat.mod_mul_mod, Nat.pow_succ]
theorem pw_mod' (a e : Nat) : pw a e % p25519 = pw a e := Nat.mod_eq_of_lt (pw_lt a e)
theorem pw_null {a e : Nat} (h : a % p25519 = 0) (he : 0 < e) : pw a e = 0 := by rw [← pw_mod, h, pw_def, Nat.zero_pow he]; rfl
theorem fermat_p {a : Nat} (h : a % p25519 ≠ 0) : pw a (p25519 - 1) = 1 := by
  rw [pw_def]
  exact prime25519.fermat fun hd => h (Nat.mod_eq_zero_of_dvd hd)
theorem fermat {a : Nat} (h : a % p25519 ≠ 0) : pw a 57896044618658097711785492504343953926634992332820282019728792003956564819948 = 1 := by
  have h1 := fermat_p h
  rwa [show p25519 - 1 = 57896044618658097711785492504343953926634992332820282019728792003956564819948 from rfl] at h1
theorem inv_mul {a : Nat} (h : a % p25519 ≠ 0) : pw a 57896044618658097711785492504343953926634992332820282019728792003956564819947 * a % p25519 = 1 := by
  rw [pw_succ]; exact fermat h
theorem inv_inv {a : Nat} (h : a % p25519 ≠ 0) : pw (pw a 57896044618658097711785492504343953926634992332820282019728792003956564819947) 57896044618658097711785492504343953926634992332820282019728792003956564819947 = a % p25519 := by
  have h1 := inv_mul h
  generalize pw a 57896044618658097711785492504343953926634992332820282019728792003956564819947 = i at *
  have hi : i % p25519 ≠ 0 := by
    intro h0
    rw [Nat.mul_mod, h0, Nat.zero_mul, Nat.zero_mod] at h1
    omega
  have h2 := inv_mul hi
  have h3 : pw i 57896044618658097711785492504343953926634992332820282019728792003956564819947 % p25519 = pw i 57896044618658097711785492504343953926634992332820282019728792003956564819947 := pw_mod' _ _
  generalize pw i 57896044618658097711785492504343953926634992332820282019728792003956564819947 = x at *
  have e1 : x * (i * a) % p25519 = x := by rw [Nat.mul_mod, h1, Nat.mul_one, Nat.mod_mod, h3]
  have e2 : x * (i * a) % p25519 = a % p25519 := by rw [← Nat.mul_assoc, Nat.mul_mod, h2, Nat.one_mul, Nat.mod_mod]
  rw [← e1, e2]
theorem mul_null {x y : Nat} (h : x * y % p25519 = 0) : x % p25519 = 0 ∨ y % p25519 = 0 :=
  (prime25519.euclid (Nat.dvd_of_mod_eq_zero h)).imp Nat.mod_eq_zero_of_dvd Nat.mod_eq_zero_of_dvd
theorem sq_eq_aux {x y : Nat} (hle : y ≤ x) (h : x * x % p25519 = y * y % p25519) : x % p25519 = y % p25519 ∨ (x + y) % p25519 = 0 := by
  have e : x * x - y * y = (x + y) * (x - y) := Nat.mul_self_sub_mul_self_eq x y
  have h1 : (x + y) * (x - y) % p25519 = 0 := by rw [← e]; exact Nat.sub_mod_eq_zero_of_mod_eq h
  rcases mul_null h1 with h2 | h2
  · exact Or.inr h2
  · refine Or.inl ?_
    have : x = (x - y) + y := by omega
    rw [this, Nat.add_mod, h2, Nat.zero_add, Nat.mod_mod]
theorem sq_eq {x y : Nat} (h : x * x % p25519 = y * y % p25519) : x % p25519 = y % p25519 ∨ (x + y) % p25519 = 0 := by
  rcases Nat.le_total y x with hle | hle
  · exact sq_eq_aux hle h
  · rcases sq_eq_aux hle h.symm with h1 | h1
    · exact Or.inl h1.symm
    · exact Or.inr (by rw [Nat.add_comm]; exact h1)
theorem sq_one {x : Nat} (hx : x < p25519) (h : x * x % p25519 = 1) : x = 1 ∨ x = 57896044618658097711785492504343953926634992332820282019728792003956564819948 := by
  rcases sq_eq (x := x) (y := 1) h with h1 | h1
  · left; rw [Nat.mod_eq_of_lt hx] at h1; exact h1
  · right
    unfold p25519 at *
    omega
def half : Nat := 28948022309329048855892746252171976963317496166410141009864396001978282409974
theorem chi {s : Nat} (h : s % p25519 ≠ 0) : pw s half = 1 ∨ pw s half = 57896044618658097711785492504343953926634992332820282019728792003956564819948 := by
  refine sq_one (pw_lt _ _) ?_
  rw [pw_add]
  exact fermat h
theorem chi_2 : pw 2 half = 57896044618658097711785492504343953926634992332820282019728792003956564819948 := by
  rw [pw_def, ← pm_eq p25519 256 2 half (by decide)]
  exact Nat.eq_of_beq_eq_true (by kernel_rfl)
theorem rootB_lt (s : Nat) : rootB s < p25519 := by
  unfold rootB
  split
  · exact pw_lt _ _
  · exact Nat.mod_lt _ (by decide)
theorem has_of_chi {s : Nat} (h : s % p25519 ≠ 0) (hc : pw s half = 1) : hasRoot s := by
  unfold hasRoot
  rw [Nat.mod_mod]
  have hA : rootA s * rootA s % p25519 = s * pw s 14474011154664524427946373126085988481658748083205070504932198000989141204987 % p25519 := by
    unfold rootA
    rw [pw_add, Nat.mul_comm s, pw_succ]
  have ht : pw s 14474011154664524427946373126085988481658748083205070504932198000989141204987 * pw s 14474011154664524427946373126085988481658748083205070504932198000989141204987 % p25519 = 1 := by rw [pw_add]; exact hc
  by_cases hr : rootA s * rootA s % p25519 % p25519 = s % p25519
  · rw [show rootB s = rootA s from if_pos hr]
    rw [Nat.mod_mod] at hr
    exact hr
  · rw [show rootB s = rootA s * pw 2 14474011154664524427946373126085988481658748083205070504932198000989141204987 % p25519 from if_neg hr]
    rcases sq_one (pw_lt _ _) ht with h1 | h1
    · exfalso
      apply hr
      rw [Nat.mod_mod, hA, h1, Nat.mul_one]
    · have hi : pw 2 14474011154664524427946373126085988481658748083205070504932198000989141204987 * pw 2 14474011154664524427946373126085988481658748083205070504932198000989141204987 % p25519 = 57896044618658097711785492504343953926634992332820282019728792003956564819948 := by rw [pw_add]; exact chi_2
      generalize pw 2 14474011154664524427946373126085988481658748083205070504932198000989141204987 = i at *
      generalize rootA s = r at *
      rw [h1] at hA
      have e : (r * i) * (r * i) = (r * r) * (i * i) := by grind
      rw [← Nat.mul_mod, e, Nat.mul_mod, hA, hi, Nat.mod_mul_mod, Nat.mul_assoc, Nat.mul_mod]
      have : (57896044618658097711785492504343953926634992332820282019728792003956564819948 * 57896044618658097711785492504343953926634992332820282019728792003956564819948) % p25519 = 1 := by decide
      rw [this, Nat.mul_one, Nat.mod_mod]
theorem chi_of_has {s : Nat} (h : s % p25519 ≠ 0) (hr : hasRoot s) : pw s half = 1 := by
  unfold hasRoot at hr
  rw [Nat.mod_mod] at hr
  have hb : rootB s % p25519 ≠ 0 := by
    intro h0
    rw [Nat.mul_mod, h0, Nat.zero_mul, Nat.zero_mod] at hr
    exact h hr.symm
  rw [← pw_mod, ← hr, pw_mod, pw_mul, pw_add]
  exact fermat hb
theorem has_iff {s : Nat} (h : s % p25519 ≠ 0) : hasRoot s ↔ pw s half = 1 := ⟨chi_of_has h, has_of_chi h⟩
theorem mul_ne {a b : Nat} (ha : a % p25519 ≠ 0) (hb : b % p25519 ≠ 0) : a * b % p25519 % p25519 ≠ 0 := by
  rw [Nat.mod_mod]
  intro h
  rcases mul_null h with h1 | h1
  · exact ha h1
  · exact hb h1
theorem has_sq {a : Nat} (ha : a % p25519 ≠ 0) : hasRoot (a * a % p25519) := by
  refine has_of_chi (mul_ne ha ha) ?_
  rw [pw_mod, pw_mul, pw_add]
  exact fermat ha
theorem has_two {a : Nat} (ha : a % p25519 ≠ 0) : ¬ hasRoot (2 * (a * a % p25519) % p25519) := by
  intro h
  have h2 := chi_of_has (mul_ne (by decide) (mul_ne ha ha)) h
  rw [pw_mod, pw_mul, pw_mod, pw_mul, pw_add, chi_2] at h2
  rw [show half + half = 57896044618658097711785492504343953926634992332820282019728792003956564819948 from rfl, fermat ha] at h2
  exact absurd h2 (by decide)
theorem has_mul {a b : Nat} (ha : a % p25519 ≠ 0) (hb : b % p25519 ≠ 0) : decide (hasRoot (a * b % p25519)) = (decide (hasRoot a) == decide (hasRoot b)) := by
  have hm : pw (a * b % p25519) half = pw a half * pw b half % p25519 := by rw [pw_mod, pw_mul]
  have h1 := has_iff (mul_ne ha hb)
  have h2 := has_iff ha
  have h3 := has_iff hb
  rw [hm] at h1
  rcases chi ha with ca | ca <;> rcases chi hb with cb | cb
  all_goals
    rw [ca, cb] at h1
    rw [ca] at h2
    rw [cb] at h3
  · rw [decide_eq_true (h1.2 (by decide)), decide_eq_true (h2.2 rfl), decide_eq_true (h3.2 rfl)]; rfl
  · rw [decide_eq_false (fun h => absurd (h1.1 h) (by decide)), decide_eq_true (h2.2 rfl), decide_eq_false (fun h => absurd (h3.1 h) (by decide))]; rfl
  · rw [decide_eq_false (fun h => absurd (h1.1 h) (by decide)), decide_eq_false (fun h => absurd (h2.1 h) (by decide)), decide_eq_true (h3.2 rfl)]; rfl
  · rw [decide_eq_true (h1.2 (by decide)), decide_eq_false (fun h => absurd (h2.1 h) (by decide)), decide_eq_false (fun h => absurd (h3.1 h) (by decide))]; rfl
def evenOf (a : Nat) : Nat := if a % p25519 % 2 = 1 then (p25519 - a % p25519) % p25519 else a % p25519
theorem root_sq {a : Nat} (ha : a % p25519 ≠ 0) : rootC (a * a % p25519) = evenOf a := by
  have hh := has_sq ha
  have hsq : rootB (a * a % p25519) * rootB (a * a % p25519) % p25519 = (a % p25519) * (a % p25519) % p25519 := by
    have := hh
    unfold hasRoot at this
    rw [Nat.mod_mod, Nat.mod_mod] at this
    rw [this, Nat.mul_mod]
  have hlt := rootB_lt (a * a % p25519)
  have hy : a % p25519 < p25519 := Nat.mod_lt _ (by decide)
  unfold rootC evenOf
  rw [if_pos hh]
  generalize rootB (a * a % p25519) = x at *
  generalize a % p25519 = y at *
  have hc := sq_eq hsq
  rw [Nat.mod_eq_of_lt hlt, Nat.mod_eq_of_lt hy] at hc
  rw [Nat.mod_eq_of_lt hlt]
  unfold p25519 at *
  rcases hc with h1 | h1
  · subst h1; rfl
  · have h2 : x + y = 57896044618658097711785492504343953926634992332820282019728792003956564819949 := by omega
    split <;> split <;> omega
end Go.Proofs.Ytmpjigghgedjbaa
namespace Go.Proofs.Ytmpjigghgedjbaa
open Go Go.N
def Z (a : Int) : Prop := (57896044618658097711785492504343953926634992332820282019728792003956564819949 : Int) ∣ a
theorem Z.zero : Z 0 := ⟨0, by omega⟩
theorem Z.add {a b : Int} (h : Z a) (k : Z b) : Z (a + b) := Int.dvd_add h k
theorem Z.sub {a b : Int} (h : Z a) (k : Z b) : Z (a - b) := Int.dvd_sub h k
theorem Z.neg {a : Int} (h : Z a) : Z (-a) := Int.dvd_neg.2 h
theorem Z.mul {a : Int} (c : Int) (h : Z a) : Z (c * a) := Int.dvd_mul_of_dvd_right h
theorem Z.eq {a b : Int} (h : Z a) (e : b = a) : Z b := e ▸ h
theorem Z.sub_comm {a b : Int} (h : Z (a - b)) : Z (b - a) := h.neg.eq (by omega)
def cn (a : Int) : Nat := (a % 57896044618658097711785492504343953926634992332820282019728792003956564819949).toNat
theorem cn_lt (a : Int) : cn a < 57896044618658097711785492504343953926634992332820282019728792003956564819949 := by unfold cn; omega
theorem cn_Z (a : Int) : Z ((cn a : Int) - a) := by
  unfold cn Z
  have h : ((a % 57896044618658097711785492504343953926634992332820282019728792003956564819949).toNat : Int) = a % 57896044618658097711785492504343953926634992332820282019728792003956564819949 := Int.toNat_of_nonneg (by omega)
  rw [h]
  omega
theorem Z.small {a b : Nat} (ha : a < 57896044618658097711785492504343953926634992332820282019728792003956564819949) (hb : b < 57896044618658097711785492504343953926634992332820282019728792003956564819949) (h : Z ((a : Int) - b)) : a = b := by
  unfold Z at h; omega
theorem cn_mod (a : Nat) : cn (a : Int) = a % 57896044618658097711785492504343953926634992332820282019728792003956564819949 := by unfold cn; omega
theorem cn_of {a : Int} {b : Nat} (hb : b < 57896044618658097711785492504343953926634992332820282019728792003956564819949) (h : Z ((b : Int) - a)) : cn a = b :=
  Z.small (cn_lt a) hb ((cn_Z a).sub h |>.eq (by omega))
theorem Z.prime {a b : Int} (h : Z (a * b)) : Z a ∨ Z b := by
  unfold Z at *
  rw [← Int.natAbs_dvd_natAbs] at *
  rw [Int.natAbs_mul] at h
  rw [← Int.natAbs_dvd_natAbs]
  exact prime25519.euclid h
theorem Z.mul_ne {a b : Int} (h : ¬ Z a) (k : ¬ Z b) : ¬ Z (a * b) := fun hh => hh.prime.elim h k
theorem zmod {a b : Nat} : Z ((a : Int) - b) ↔ a % p25519 = b % p25519 := by unfold Z p25519; omega
theorem znat {a : Nat} : Z (a : Int) ↔ a % p25519 = 0 := by unfold Z p25519; omega
def inv (a : Nat) : Nat := pw a 57896044618658097711785492504343953926634992332820282019728792003956564819947
theorem inv_Z {a : Nat} (h : ¬ Z (a : Int)) : Z ((inv a : Int) * a - 1) := by
  have h1 := inv_mul (fun e => h (znat.2 e))
  have h2 : inv a * a % p25519 = 1 % p25519 := h1
  have := zmod.2 h2
  rwa [Int.natCast_mul] at this
theorem inv_lt (a : Nat) : inv a < p25519 := pw_lt _ _
attribute [irreducible] Z cn inv
def dN : Nat := 37095705934669439343138083508754565189542113879843219016388785533085940283555
def dI : Int := 37095705934669439343138083508754565189542113879843219016388785533085940283555
def iI : Int := 19681161376707505956807079304988542015446066515923890162744021073123829784752
theorem i_sq : Z (iI * iI + 1) := by unfold Z iI; decide +kernel
theorem chi_d : pw dN half = 57896044618658097711785492504343953926634992332820282019728792003956564819948 := by
  rw [pw_def, ← pm_eq p25519 256 dN half (by decide)]
  exact Nat.eq_of_beq_eq_true (by kernel_rfl)
theorem d_nsq {u v : Int} (h : Z (u * u - dI * (v * v))) : Z v := by
  have hu := cn_Z u
  have hv := cn_Z v
  have hn : Z (((cn u * cn u : Nat) : Int) - ((dN * (cn v * cn v) : Nat) : Int)) := by
    refine ((hu.mul (cn u + u)).sub ((hv.mul (dI * (cn v + v))))|>.add h).eq ?_
    rw [Int.natCast_mul, Int.natCast_mul, Int.natCast_mul, show ((dN : Nat) : Int) = dI from rfl]
    grind
  have hm := zmod.1 hn
  have hvv : cn v % p25519 = 0 := by
    refine Classical.byContradiction fun hne => ?_
    have e1 : pw (dN * (cn v * cn v)) half = 57896044618658097711785492504343953926634992332820282019728792003956564819948 := by
      rw [pw_mul, pw_mul, pw_add, chi_d]
      rw [show half + half = 57896044618658097711785492504343953926634992332820282019728792003956564819948 from rfl, fermat hne]
      decide
    rw [← pw_mod, ← hm, pw_mod] at e1
    by_cases hu0 : cn u % p25519 = 0
    · rw [pw_null (by rw [Nat.mul_mod, hu0]; rfl) (by decide)] at e1
      exact absurd e1 (by decide)
    · rw [pw_mul, pw_add, show half + half = 57896044618658097711785492504343953926634992332820282019728792003956564819948 from rfl, fermat hu0] at e1
      exact absurd e1 (by decide)
  exact ((znat.2 hvv).sub hv).eq (by omega)
theorem Z.two {a : Int} (h : Z (2 * a)) : Z a := h.prime.elim (fun h => absurd h (by unfold Z; decide)) id
theorem not_one : ¬ Z 1 := by unfold Z; decide
theorem not_two : ¬ Z 2 := by unfold Z; decide
def On (x y : Int) : Prop := Z (y * y - x * x - 1 - dI * (x * x) * (y * y))
theorem half_complete {e d i x1 y1 x2 y2 : Int} (he : e * e = 1) (hi : Z (i * i + 1)) (h1 : Z ((y1 * y1 - x1 * x1 - 1 - d * (x1 * x1) * (y1 * y1)))) (h2 : Z ((y2 * y2 - x2 * x2 - 1 - d * (x2 * x2) * (y2 * y2)))) (h : Z (e - d * (x1 * x2 * y1 * y2))) :
    Z ((i * x1 + e * y1) * (i * x1 + e * y1) - d * ((x1 * y1 * (i * x2 + y2)) * (x1 * y1 * (i * x2 + y2)))) :=
  (((h1.mul 1).add (h2.mul (-d * (x1 * x1) * (y1 * y1)))).add ((h.mul (e + d * (x1 * x2 * y1 * y2) + 2 * i * x1 * y1)).add (hi.mul (x1 * x1 - d * (x1 * x1) * (y1 * y1) * (x2 * x2))))).eq (by grind)
theorem complete {e x1 y1 x2 y2 : Int} (he : e * e = 1) (h1 : On x1 y1) (h2 : On x2 y2) : ¬ Z (e - dI * (x1 * x2 * y1 * y2)) := by
  intro h
  have a1 := d_nsq (half_complete he i_sq h1 h2 h)
  have h' : Z ((-e) - dI * (x1 * x2 * (-y1) * y2)) := h.neg.eq (by grind)
  have h1' : On x1 (-y1) := h1.eq (by grind)
  have h2' : On x2 (-y2) := h2.eq (by grind)
  have a2 := d_nsq (half_complete (e := e) he i_sq h1' h2' (h.eq (by grind)))
  have ne : ¬ Z (x1 * y1) := fun hz => by
    have : Z (e * e) := ((h.mul e).add (hz.mul (e * dI * (x2 * y2)))).eq (by grind)
    rw [he] at this
    exact not_one this
  have b1 := a1.prime.resolve_left ne
  have b2 : Z (iI * x2 + -y2) := by
    refine (a2.prime.resolve_left fun hz => ne (hz.neg.eq (by grind)))
  have b3 : Z y2 := Z.two ((b1.sub b2).eq (by grind))
  have : Z (e * e) := ((h.mul e).add (b3.mul (e * dI * (x1 * x2 * y1)))).eq (by grind)
  rw [he] at this
  exact not_one this
theorem ne_plus {x1 y1 x2 y2 : Int} (h1 : On x1 y1) (h2 : On x2 y2) : ¬ Z (1 + dI * (x1 * x2 * y1 * y2)) := fun h =>
  complete (e := -1) (by decide) h1 h2 (h.neg.eq (by omega))
theorem ne_minus {x1 y1 x2 y2 : Int} (h1 : On x1 y1) (h2 : On x2 y2) : ¬ Z (1 - dI * (x1 * x2 * y1 * y2)) := complete (e := 1) (by decide) h1 h2
set_option maxHeartbeats 4000000 in
theorem assoc_x {d x1 y1 x2 y2 x3 y3 : Int} (h1 : Z ((y1 * y1 - x1 * x1 - 1 - d * (x1 * x1) * (y1 * y1)))) (h2 : Z ((y2 * y2 - x2 * x2 - 1 - d * (x2 * x2) * (y2 * y2)))) (h3 : Z ((y3 * y3 - x3 * x3 - 1 - d * (x3 * x3) * (y3 * y3)))) : Z (((x1 * y2 + y1 * x2) * (1 - d * (x1 * x2 * y1 * y2)) * y3 + (y1 * y2 + x1 * x2) * (1 + d * (x1 * x2 * y1 * y2)) * x3) * ((1 + d * (x2 * x3 * y2 * y3)) * (1 - d * (x2 * x3 * y2 * y3)) + d * (x2 * y3 + y2 * x3) * (y2 * y3 + x2 * x3) * (x1 * y1)) - (x1 * (y2 * y3 + x2 * x3) * (1 + d * (x2 * x3 * y2 * y3)) + y1 * (x2 * y3 + y2 * x3) * (1 - d * (x2 * x3 * y2 * y3))) * ((1 + d * (x1 * x2 * y1 * y2)) * (1 - d * (x1 * x2 * y1 * y2)) + d * (x1 * y2 + y1 * x2) * (y1 * y2 + x1 * x2) * (x3 * y3))) :=
  (((Z.mul (-x1 * x2 * x2 * x2 * x2 * y2 * y2 * y2 * x3 * x3 * y3 * d * d - x1 * x2 * x2 * x2 * x2 * y2 * x3 * x3 * y3 * d - x1 * x2 * x2 * x2 * y2 * y2 * y2 * y2 * x3 * y3 * y3 * d * d - x1 * x2 * x2 * x2 * y2 * y2 * x3 * x3 * x3 * d - x1 * x2 * x2 * x2 * y2 * y2 * x3 * d + x1 * x2 * x2 * y2 * y2 * y2 * y3 * y3 * y3 * d - x1 * x2 * x2 * y2 * y2 * y2 * y3 * d + x1 * x2 * y2 * y2 * y2 * y2 * x3 * y3 * y3 * d + y1 * x2 * x2 * x2 * x2 * y2 * y2 * y2 * x3 * y3 * y3 * d * d + y1 * x2 * x2 * x2 * x2 * y2 * x3 * y3 * y3 * d + y1 * x2 * x2 * x2 * y2 * y2 * y2 * y2 * x3 * x3 * y3 * d * d + y1 * x2 * x2 * x2 * y2 * y2 * y3 * y3 * y3 * d - y1 * x2 * x2 * x2 * y2 * y2 * y3 * d - y1 * x2 * x2 * y2 * y2 * y2 * x3 * x3 * x3 * d - y1 * x2 * x2 * y2 * y2 * y2 * x3 * d - y1 * x2 * y2 * y2 * y2 * y2 * x3 * x3 * y3 * d) h1).add (Z.mul (x1 * x1 * x1 * x2 * x2 * y2 * x3 * x3 * y3 * d + x1 * x1 * x1 * x2 * y2 * y2 * x3 * y3 * y3 * d + x1 * x1 * x1 * x2 * x3 * x3 * x3 * y3 * y3 * d + x1 * x1 * x1 * x2 * x3 * x3 * x3 - x1 * x1 * x1 * x2 * x3 * y3 * y3 + x1 * x1 * x1 * x2 * x3 + x1 * x1 * x1 * y2 * x3 * x3 * y3 * y3 * y3 * d + x1 * x1 * x1 * y2 * x3 * x3 * y3 - x1 * x1 * x1 * y2 * y3 * y3 * y3 + x1 * x1 * x1 * y2 * y3 + x1 * x1 * y1 * x2 * x2 * y2 * x3 * x3 * x3 * y3 * y3 * d * d - x1 * x1 * y1 * x2 * x2 * y2 * x3 * y3 * y3 * d - x1 * x1 * y1 * x2 * y2 * y2 * x3 * x3 * y3 * y3 * y3 * d * d - x1 * x1 * y1 * x2 * y2 * y2 * x3 * x3 * y3 * d + x1 * x1 * y1 * x2 * x3 * x3 * y3 * y3 * y3 * d + x1 * x1 * y1 * x2 * x3 * x3 * y3 - x1 * x1 * y1 * x2 * y3 * y3 * y3 + x1 * x1 * y1 * x2 * y3 + x1 * x1 * y1 * y2 * x3 * x3 * x3 * y3 * y3 * d + x1 * x1 * y1 * y2 * x3 * x3 * x3 - x1 * x1 * y1 * y2 * x3 * y3 * y3 + x1 * x1 * y1 * y2 * x3 - x1 * y1 * y1 * x2 * x2 * y2 * x3 * x3 * y3 * y3 * y3 * d * d - x1 * y1 * y1 * x2 * x2 * y2 * x3 * x3 * y3 * d + x1 * y1 * y1 * x2 * y2 * y2 * x3 * x3 * x3 * y3 * y3 * d * d - x1 * y1 * y1 * x2 * y2 * y2 * x3 * y3 * y3 * d - x1 * y1 * y1 * x2 * x3 * x3 * x3 * y3 * y3 * d - x1 * y1 * y1 * x2 * x3 * x3 * x3 + x1 * y1 * y1 * x2 * x3 * y3 * y3 - x1 * y1 * y1 * x2 * x3 - x1 * y1 * y1 * y2 * x3 * x3 * y3 * y3 * y3 * d - x1 * y1 * y1 * y2 * x3 * x3 * y3 + x1 * y1 * y1 * y2 * y3 * y3 * y3 - x1 * y1 * y1 * y2 * y3 + x1 * x2 * x2 * y2 * x3 * x3 * y3 * d + x1 * x2 * y2 * y2 * x3 * y3 * y3 * d + x1 * x2 * x3 * x3 * x3 * y3 * y3 * d + x1 * x2 * x3 * x3 * x3 - x1 * x2 * x3 * y3 * y3 + x1 * x2 * x3 + x1 * y2 * x3 * x3 * y3 * y3 * y3 * d + x1 * y2 * x3 * x3 * y3 - x1 * y2 * y3 * y3 * y3 + x1 * y2 * y3 + y1 * y1 * y1 * x2 * x2 * y2 * x3 * y3 * y3 * d + y1 * y1 * y1 * x2 * y2 * y2 * x3 * x3 * y3 * d - y1 * y1 * y1 * x2 * x3 * x3 * y3 * y3 * y3 * d - y1 * y1 * y1 * x2 * x3 * x3 * y3 + y1 * y1 * y1 * x2 * y3 * y3 * y3 - y1 * y1 * y1 * x2 * y3 - y1 * y1 * y1 * y2 * x3 * x3 * x3 * y3 * y3 * d - y1 * y1 * y1 * y2 * x3 * x3 * x3 + y1 * y1 * y1 * y2 * x3 * y3 * y3 - y1 * y1 * y1 * y2 * x3 - y1 * x2 * x2 * y2 * x3 * y3 * y3 * d - y1 * x2 * y2 * y2 * x3 * x3 * y3 * d + y1 * x2 * x3 * x3 * y3 * y3 * y3 * d + y1 * x2 * x3 * x3 * y3 - y1 * x2 * y3 * y3 * y3 + y1 * x2 * y3 + y1 * y2 * x3 * x3 * x3 * y3 * y3 * d + y1 * y2 * x3 * x3 * x3 - y1 * y2 * x3 * y3 * y3 + y1 * y2 * x3) h2)).add (Z.mul (-x1 * x1 * x1 * x2 * x2 * x2 * x3 - x1 * x1 * x1 * x2 * x2 * y2 * y3 + x1 * x1 * x1 * x2 * y2 * y2 * x3 - x1 * x1 * x1 * x2 * x3 + x1 * x1 * x1 * y2 * y2 * y2 * y3 - x1 * x1 * x1 * y2 * y3 - x1 * x1 * y1 * x2 * x2 * x2 * y3 - x1 * x1 * y1 * x2 * x2 * y2 * x3 * d - x1 * x1 * y1 * x2 * x2 * y2 * x3 + x1 * x1 * y1 * x2 * y2 * y2 * y3 * d + x1 * x1 * y1 * x2 * y2 * y2 * y3 - x1 * x1 * y1 * x2 * y3 + x1 * x1 * y1 * y2 * y2 * y2 * x3 - x1 * x1 * y1 * y2 * x3 + x1 * y1 * y1 * x2 * x2 * x2 * x3 + x1 * y1 * y1 * x2 * x2 * y2 * y3 * d + x1 * y1 * y1 * x2 * x2 * y2 * y3 - x1 * y1 * y1 * x2 * y2 * y2 * x3 * d - x1 * y1 * y1 * x2 * y2 * y2 * x3 + x1 * y1 * y1 * x2 * x3 - x1 * y1 * y1 * y2 * y2 * y2 * y3 + x1 * y1 * y1 * y2 * y3 - x1 * x2 * x2 * x2 * x3 - x1 * x2 * x2 * y2 * y3 + x1 * x2 * y2 * y2 * x3 - x1 * x2 * x3 + x1 * y2 * y2 * y2 * y3 - x1 * y2 * y3 + y1 * y1 * y1 * x2 * x2 * x2 * y3 + y1 * y1 * y1 * x2 * x2 * y2 * x3 - y1 * y1 * y1 * x2 * y2 * y2 * y3 + y1 * y1 * y1 * x2 * y3 - y1 * y1 * y1 * y2 * y2 * y2 * x3 + y1 * y1 * y1 * y2 * x3 - y1 * x2 * x2 * x2 * y3 - y1 * x2 * x2 * y2 * x3 + y1 * x2 * y2 * y2 * y3 - y1 * x2 * y3 + y1 * y2 * y2 * y2 * x3 - y1 * y2 * x3) h3)).eq (by grind)
set_option maxHeartbeats 4000000 in
theorem assoc_y {d x1 y1 x2 y2 x3 y3 : Int} (h1 : Z ((y1 * y1 - x1 * x1 - 1 - d * (x1 * x1) * (y1 * y1)))) (h2 : Z ((y2 * y2 - x2 * x2 - 1 - d * (x2 * x2) * (y2 * y2)))) (h3 : Z ((y3 * y3 - x3 * x3 - 1 - d * (x3 * x3) * (y3 * y3)))) : Z (((y1 * y2 + x1 * x2) * (1 + d * (x1 * x2 * y1 * y2)) * y3 + (x1 * y2 + y1 * x2) * (1 - d * (x1 * x2 * y1 * y2)) * x3) * ((1 + d * (x2 * x3 * y2 * y3)) * (1 - d * (x2 * x3 * y2 * y3)) - d * (x2 * y3 + y2 * x3) * (y2 * y3 + x2 * x3) * (x1 * y1)) - (y1 * (y2 * y3 + x2 * x3) * (1 + d * (x2 * x3 * y2 * y3)) + x1 * (x2 * y3 + y2 * x3) * (1 - d * (x2 * x3 * y2 * y3))) * ((1 + d * (x1 * x2 * y1 * y2)) * (1 - d * (x1 * x2 * y1 * y2)) - d * (x1 * y2 + y1 * x2) * (y1 * y2 + x1 * x2) * (x3 * y3))) :=
  (((Z.mul (x1 * x2 * x2 * x2 * x2 * y2 * y2 * y2 * x3 * y3 * y3 * d * d + x1 * x2 * x2 * x2 * x2 * y2 * x3 * y3 * y3 * d + x1 * x2 * x2 * x2 * y2 * y2 * y2 * y2 * x3 * x3 * y3 * d * d + x1 * x2 * x2 * x2 * y2 * y2 * y3 * y3 * y3 * d - x1 * x2 * x2 * x2 * y2 * y2 * y3 * d - x1 * x2 * x2 * y2 * y2 * y2 * x3 * x3 * x3 * d - x1 * x2 * x2 * y2 * y2 * y2 * x3 * d - x1 * x2 * y2 * y2 * y2 * y2 * x3 * x3 * y3 * d - y1 * x2 * x2 * x2 * x2 * y2 * y2 * y2 * x3 * x3 * y3 * d * d - y1 * x2 * x2 * x2 * x2 * y2 * x3 * x3 * y3 * d - y1 * x2 * x2 * x2 * y2 * y2 * y2 * y2 * x3 * y3 * y3 * d * d - y1 * x2 * x2 * x2 * y2 * y2 * x3 * x3 * x3 * d - y1 * x2 * x2 * x2 * y2 * y2 * x3 * d + y1 * x2 * x2 * y2 * y2 * y2 * y3 * y3 * y3 * d - y1 * x2 * x2 * y2 * y2 * y2 * y3 * d + y1 * x2 * y2 * y2 * y2 * y2 * x3 * y3 * y3 * d) h1).add (Z.mul (-x1 * x1 * x1 * x2 * x2 * y2 * x3 * y3 * y3 * d - x1 * x1 * x1 * x2 * y2 * y2 * x3 * x3 * y3 * d + x1 * x1 * x1 * x2 * x3 * x3 * y3 * y3 * y3 * d + x1 * x1 * x1 * x2 * x3 * x3 * y3 - x1 * x1 * x1 * x2 * y3 * y3 * y3 + x1 * x1 * x1 * x2 * y3 + x1 * x1 * x1 * y2 * x3 * x3 * x3 * y3 * y3 * d + x1 * x1 * x1 * y2 * x3 * x3 * x3 - x1 * x1 * x1 * y2 * x3 * y3 * y3 + x1 * x1 * x1 * y2 * x3 + x1 * x1 * y1 * x2 * x2 * y2 * x3 * x3 * y3 * y3 * y3 * d * d + x1 * x1 * y1 * x2 * x2 * y2 * x3 * x3 * y3 * d - x1 * x1 * y1 * x2 * y2 * y2 * x3 * x3 * x3 * y3 * y3 * d * d + x1 * x1 * y1 * x2 * y2 * y2 * x3 * y3 * y3 * d + x1 * x1 * y1 * x2 * x3 * x3 * x3 * y3 * y3 * d + x1 * x1 * y1 * x2 * x3 * x3 * x3 - x1 * x1 * y1 * x2 * x3 * y3 * y3 + x1 * x1 * y1 * x2 * x3 + x1 * x1 * y1 * y2 * x3 * x3 * y3 * y3 * y3 * d + x1 * x1 * y1 * y2 * x3 * x3 * y3 - x1 * x1 * y1 * y2 * y3 * y3 * y3 + x1 * x1 * y1 * y2 * y3 - x1 * y1 * y1 * x2 * x2 * y2 * x3 * x3 * x3 * y3 * y3 * d * d + x1 * y1 * y1 * x2 * x2 * y2 * x3 * y3 * y3 * d + x1 * y1 * y1 * x2 * y2 * y2 * x3 * x3 * y3 * y3 * y3 * d * d + x1 * y1 * y1 * x2 * y2 * y2 * x3 * x3 * y3 * d - x1 * y1 * y1 * x2 * x3 * x3 * y3 * y3 * y3 * d - x1 * y1 * y1 * x2 * x3 * x3 * y3 + x1 * y1 * y1 * x2 * y3 * y3 * y3 - x1 * y1 * y1 * x2 * y3 - x1 * y1 * y1 * y2 * x3 * x3 * x3 * y3 * y3 * d - x1 * y1 * y1 * y2 * x3 * x3 * x3 + x1 * y1 * y1 * y2 * x3 * y3 * y3 - x1 * y1 * y1 * y2 * x3 - x1 * x2 * x2 * y2 * x3 * y3 * y3 * d - x1 * x2 * y2 * y2 * x3 * x3 * y3 * d + x1 * x2 * x3 * x3 * y3 * y3 * y3 * d + x1 * x2 * x3 * x3 * y3 - x1 * x2 * y3 * y3 * y3 + x1 * x2 * y3 + x1 * y2 * x3 * x3 * x3 * y3 * y3 * d + x1 * y2 * x3 * x3 * x3 - x1 * y2 * x3 * y3 * y3 + x1 * y2 * x3 - y1 * y1 * y1 * x2 * x2 * y2 * x3 * x3 * y3 * d - y1 * y1 * y1 * x2 * y2 * y2 * x3 * y3 * y3 * d - y1 * y1 * y1 * x2 * x3 * x3 * x3 * y3 * y3 * d - y1 * y1 * y1 * x2 * x3 * x3 * x3 + y1 * y1 * y1 * x2 * x3 * y3 * y3 - y1 * y1 * y1 * x2 * x3 - y1 * y1 * y1 * y2 * x3 * x3 * y3 * y3 * y3 * d - y1 * y1 * y1 * y2 * x3 * x3 * y3 + y1 * y1 * y1 * y2 * y3 * y3 * y3 - y1 * y1 * y1 * y2 * y3 + y1 * x2 * x2 * y2 * x3 * x3 * y3 * d + y1 * x2 * y2 * y2 * x3 * y3 * y3 * d + y1 * x2 * x3 * x3 * x3 * y3 * y3 * d + y1 * x2 * x3 * x3 * x3 - y1 * x2 * x3 * y3 * y3 + y1 * x2 * x3 + y1 * y2 * x3 * x3 * y3 * y3 * y3 * d + y1 * y2 * x3 * x3 * y3 - y1 * y2 * y3 * y3 * y3 + y1 * y2 * y3) h2)).add (Z.mul (-x1 * x1 * x1 * x2 * x2 * x2 * y3 - x1 * x1 * x1 * x2 * x2 * y2 * x3 + x1 * x1 * x1 * x2 * y2 * y2 * y3 - x1 * x1 * x1 * x2 * y3 + x1 * x1 * x1 * y2 * y2 * y2 * x3 - x1 * x1 * x1 * y2 * x3 - x1 * x1 * y1 * x2 * x2 * x2 * x3 - x1 * x1 * y1 * x2 * x2 * y2 * y3 * d - x1 * x1 * y1 * x2 * x2 * y2 * y3 + x1 * x1 * y1 * x2 * y2 * y2 * x3 * d + x1 * x1 * y1 * x2 * y2 * y2 * x3 - x1 * x1 * y1 * x2 * x3 + x1 * x1 * y1 * y2 * y2 * y2 * y3 - x1 * x1 * y1 * y2 * y3 + x1 * y1 * y1 * x2 * x2 * x2 * y3 + x1 * y1 * y1 * x2 * x2 * y2 * x3 * d + x1 * y1 * y1 * x2 * x2 * y2 * x3 - x1 * y1 * y1 * x2 * y2 * y2 * y3 * d - x1 * y1 * y1 * x2 * y2 * y2 * y3 + x1 * y1 * y1 * x2 * y3 - x1 * y1 * y1 * y2 * y2 * y2 * x3 + x1 * y1 * y1 * y2 * x3 - x1 * x2 * x2 * x2 * y3 - x1 * x2 * x2 * y2 * x3 + x1 * x2 * y2 * y2 * y3 - x1 * x2 * y3 + x1 * y2 * y2 * y2 * x3 - x1 * y2 * x3 + y1 * y1 * y1 * x2 * x2 * x2 * x3 + y1 * y1 * y1 * x2 * x2 * y2 * y3 - y1 * y1 * y1 * x2 * y2 * y2 * x3 + y1 * y1 * y1 * x2 * x3 - y1 * y1 * y1 * y2 * y2 * y2 * y3 + y1 * y1 * y1 * y2 * y3 - y1 * x2 * x2 * x2 * x3 - y1 * x2 * x2 * y2 * y3 + y1 * x2 * y2 * y2 * x3 - y1 * x2 * x3 + y1 * y2 * y2 * y2 * y3 - y1 * y2 * y3) h3)).eq (by grind)
set_option maxHeartbeats 4000000 in
theorem closed_xy {d x1 y1 x2 y2 : Int} (h1 : Z ((y1 * y1 - x1 * x1 - 1 - d * (x1 * x1) * (y1 * y1)))) (h2 : Z ((y2 * y2 - x2 * x2 - 1 - d * (x2 * x2) * (y2 * y2)))) : Z (((y1 * y2 + x1 * x2) * (1 + d * (x1 * x2 * y1 * y2))) * ((y1 * y2 + x1 * x2) * (1 + d * (x1 * x2 * y1 * y2))) - ((x1 * y2 + y1 * x2) * (1 - d * (x1 * x2 * y1 * y2))) * ((x1 * y2 + y1 * x2) * (1 - d * (x1 * x2 * y1 * y2))) - ((1 + d * (x1 * x2 * y1 * y2)) * (1 - d * (x1 * x2 * y1 * y2))) * ((1 + d * (x1 * x2 * y1 * y2)) * (1 - d * (x1 * x2 * y1 * y2))) - d * ((x1 * y2 + y1 * x2) * (x1 * y2 + y1 * x2)) * ((y1 * y2 + x1 * x2) * (y1 * y2 + x1 * x2))) :=
  ((Z.mul (x1 * x1 * y1 * y1 * x2 * x2 * x2 * x2 * y2 * y2 * y2 * y2 * d * d * d - x1 * x1 * x2 * x2 * x2 * x2 * y2 * y2 * y2 * y2 * d * d - x1 * x1 * x2 * x2 * x2 * x2 * y2 * y2 * d + x1 * x1 * x2 * x2 * y2 * y2 * y2 * y2 * d + y1 * y1 * x2 * x2 * x2 * x2 * y2 * y2 * y2 * y2 * d * d + y1 * y1 * x2 * x2 * x2 * x2 * y2 * y2 * d - y1 * y1 * x2 * x2 * y2 * y2 * y2 * y2 * d - x2 * x2 * x2 * x2 * y2 * y2 * y2 * y2 * d * d - 2 * x2 * x2 * x2 * x2 * y2 * y2 * y2 * y2 * d - 2 * x2 * x2 * x2 * x2 * y2 * y2 + x2 * x2 * x2 * x2 + 2 * x2 * x2 * y2 * y2 * y2 * y2 - 2 * x2 * x2 * y2 * y2 * d - 4 * x2 * x2 * y2 * y2 + y2 * y2 * y2 * y2) h1).add (Z.mul (x1 * x1 * x1 * x1 * x2 * x2 * y2 * y2 * d + 2 * x1 * x1 * x2 * x2 * y2 * y2 * d + 2 * x1 * x1 * x2 * x2 * y2 * y2 - x1 * x1 * x2 * x2 + x1 * x1 * y2 * y2 + y1 * y1 * y1 * y1 * x2 * x2 * y2 * y2 * d - 2 * y1 * y1 * x2 * x2 * y2 * y2 * d - 2 * y1 * y1 * x2 * x2 * y2 * y2 + y1 * y1 * x2 * x2 - y1 * y1 * y2 * y2 + x2 * x2 * y2 * y2 * d + 2 * x2 * x2 * y2 * y2 - x2 * x2 + y2 * y2 + 1) h2)).eq (by grind)
theorem same_by {x x' D A : Int} (hD : ¬ Z D) (h : Z (x * D - A)) (h' : Z (x' * D - A)) : Z (x - x') :=
  (((h.sub h').eq (show (x - x') * D = _ by grind)).prime).resolve_right hD
end Go.Proofs.Ytmpjigghgedjbaa
namespace Go.Proofs.Ytmpjigghgedjbaa
open Go Go.N
abbrev Pt := Nat × Nat
def Val (P : Pt) : Prop := P.1 < p25519 ∧ P.2 < p25519 ∧ On P.1 P.2
def den (s : Int) (P Q : Pt) : Int := 1 + s * (dI * ((P.1 : Int) * Q.1 * P.2 * Q.2))
def addP (P Q : Pt) : Pt :=
  (cn (((P.1 : Int) * Q.2 + P.2 * Q.1) * inv (cn (den 1 P Q))), cn (((P.2 : Int) * Q.2 + P.1 * Q.1) * inv (cn (den (-1) P Q))))
theorem den_1 (P Q : Pt) : den 1 P Q = 1 + dI * ((P.1 : Int) * Q.1 * P.2 * Q.2) := by unfold den; grind
theorem den_m (P Q : Pt) : den (-1) P Q = 1 - dI * ((P.1 : Int) * Q.1 * P.2 * Q.2) := by unfold den; grind
theorem den_plus {P Q : Pt} (hP : Val P) (hQ : Val Q) : ¬ Z (den 1 P Q) := fun h => ne_plus hP.2.2 hQ.2.2 (h.eq (by unfold den; grind))
theorem den_minus {P Q : Pt} (hP : Val P) (hQ : Val Q) : ¬ Z (den (-1) P Q) := fun h => ne_minus hP.2.2 hQ.2.2 (h.eq (by unfold den; grind))
theorem cn_p (a : Int) : cn a < p25519 := cn_lt a
theorem quot_Z {D N : Int} (h : ¬ Z D) : Z ((cn (N * inv (cn D)) : Int) * D - N) := by
  have h1 := cn_Z D
  have h2 : ¬ Z ((cn D : Nat) : Int) := fun hz => h ((hz.sub h1).eq (by omega))
  have h3 := inv_Z h2
  have h4 := cn_Z (N * inv (cn D))
  generalize (cn (N * inv (cn D)) : Int) = x at *
  generalize (cn D : Int) = c at *
  generalize (inv (cn D) : Int) = i at *
  exact (((h4.mul D).add (h3.mul N)).sub (h1.mul (N * i))).eq (by grind)
theorem add_x {P Q : Pt} (hP : Val P) (hQ : Val Q) : Z (((addP P Q).1 : Int) * den 1 P Q - (P.1 * Q.2 + P.2 * Q.1)) := quot_Z (den_plus hP hQ)
theorem add_y {P Q : Pt} (hP : Val P) (hQ : Val Q) : Z (((addP P Q).2 : Int) * den (-1) P Q - (P.2 * Q.2 + P.1 * Q.1)) := quot_Z (den_minus hP hQ)
theorem add_lt (P Q : Pt) : (addP P Q).1 < p25519 ∧ (addP P Q).2 < p25519 := ⟨cn_lt _, cn_lt _⟩
attribute [irreducible] addP
theorem pt_same {P Q : Pt} (hP : P.1 < p25519 ∧ P.2 < p25519) (hQ : Q.1 < p25519 ∧ Q.2 < p25519) (h1 : Z ((P.1 : Int) - Q.1)) (h2 : Z ((P.2 : Int) - Q.2)) : P = Q :=
  Prod.ext (Z.small hP.1 hQ.1 h1) (Z.small hP.2 hQ.2 h2)
theorem add_is {P Q R : Pt} (hP : Val P) (hQ : Val Q) (hR : R.1 < p25519 ∧ R.2 < p25519) (h1 : Z ((R.1 : Int) * den 1 P Q - (P.1 * Q.2 + P.2 * Q.1))) (h2 : Z ((R.2 : Int) * den (-1) P Q - (P.2 * Q.2 + P.1 * Q.1))) : addP P Q = R :=
  pt_same (add_lt P Q) hR (same_by (den_plus hP hQ) (add_x hP hQ) h1) (same_by (den_minus hP hQ) (add_y hP hQ) h2)
theorem sq_of {x D A : Int} (h : Z (x * D - A)) : Z (x * D * (x * D) - A * A) := (h.mul (x * D + A)).eq (by grind)
theorem add_val {P Q : Pt} (hP : Val P) (hQ : Val Q) : Val (addP P Q) := by
  refine ⟨(add_lt P Q).1, (add_lt P Q).2, ?_⟩
  have hx := add_x hP hQ
  have hy := add_y hP hQ
  have n1 := den_plus hP hQ
  have n2 := den_minus hP hQ
  have hc := closed_xy (d := dI) hP.2.2 hQ.2.2
  have e1 : den 1 P Q = 1 + dI * ((P.1 : Int) * Q.1 * P.2 * Q.2) := by unfold den; grind
  have e2 : den (-1) P Q = 1 - dI * ((P.1 : Int) * Q.1 * P.2 * Q.2) := by unfold den; grind
  rw [← e1, ← e2] at hc
  unfold On
  generalize ((addP P Q).1 : Int) = x at *
  generalize ((addP P Q).2 : Int) = y at *
  generalize den 1 P Q = Dp at *
  generalize den (-1) P Q = Dm at *
  generalize ((P.1 : Int) * Q.2 + P.2 * Q.1) = A at *
  generalize ((P.2 : Int) * Q.2 + P.1 * Q.1) = B at *
  have sx := sq_of hx
  have sy := sq_of hy
  have key : Z ((Dp * Dm) * ((Dp * Dm) * (y * y - x * x - 1 - dI * (x * x) * (y * y)))) :=
    (((sy.mul (Dp * Dp)).sub (sx.mul (Dm * Dm))).sub ((sx.mul (dI * (y * Dm * (y * Dm)))).add (sy.mul (dI * (A * A))))|>.add hc).eq (by grind)
  exact (key.prime.resolve_left (Z.mul_ne n1 n2)).prime.resolve_left (Z.mul_ne n1 n2)
theorem add_comm' {P Q : Pt} (hP : Val P) (hQ : Val Q) : addP P Q = addP Q P :=
  add_is hP hQ (add_lt Q P) ((add_x hQ hP).eq (by unfold den; grind)) ((add_y hQ hP).eq (by unfold den; grind))
theorem lift_x {d x12 y12 x3 y3 x Dp Dm A B : Int} (ha : Z (x12 * Dp - A)) (hb : Z (y12 * Dm - B)) (hx : Z (x * (1 + d * (x12 * x3 * y12 * y3)) - (x12 * y3 + y12 * x3))) :
    Z (x * (Dp * Dm + d * A * B * (x3 * y3)) - (A * Dm * y3 + B * Dp * x3)) :=
  ((hx.mul (Dp * Dm)).add (((ha.mul (Dm * y3 - x * d * x3 * y3 * B)).add (hb.mul (Dp * x3 - x * d * x3 * y3 * (x12 * Dp)))))).eq (by grind)
theorem lift_y {d x12 y12 x3 y3 y Dp Dm A B : Int} (ha : Z (x12 * Dp - A)) (hb : Z (y12 * Dm - B)) (hy : Z (y * (1 - d * (x12 * x3 * y12 * y3)) - (y12 * y3 + x12 * x3))) :
    Z (y * (Dp * Dm - d * A * B * (x3 * y3)) - (B * Dp * y3 + A * Dm * x3)) :=
  ((hy.mul (Dp * Dm)).add (((ha.mul (Dm * x3 + y * d * x3 * y3 * B)).add (hb.mul (Dp * y3 + y * d * x3 * y3 * (x12 * Dp)))))).eq (by grind)
theorem lift_ne {s d x12 y12 x3 y3 Dp Dm A B : Int} (ha : Z (x12 * Dp - A)) (hb : Z (y12 * Dm - B)) (h1 : ¬ Z Dp) (h2 : ¬ Z Dm) (h3 : ¬ Z (1 + s * (d * (x12 * x3 * y12 * y3)))) : ¬ Z (Dp * Dm + s * (d * A * B * (x3 * y3))) := fun h =>
  Z.mul_ne (Z.mul_ne h1 h2) h3 ((h.add ((ha.mul (s * d * x3 * y3 * B)).add (hb.mul (s * d * x3 * y3 * (x12 * Dp))))).eq (by grind))
theorem cross {x x' N M N' M' : Int} (h : Z (x * M - N)) (h' : Z (x' * M' - N')) (hm : ¬ Z M) (hm' : ¬ Z M') (hc : Z (N * M' - N' * M)) : Z (x - x') :=
  ((((h.mul M').sub (h'.mul M)).add hc).eq (show (x - x') * (M * M') = _ by grind)).prime.resolve_right (Z.mul_ne hm hm')
theorem add_assoc' {P Q R : Pt} (hP : Val P) (hQ : Val Q) (hR : Val R) : addP (addP P Q) R = addP P (addP Q R) := by
  have hPQ := add_val hP hQ
  have hQR := add_val hQ hR
  rw [add_comm' hP hQR]
  have ax := add_x hP hQ
  have ay := add_y hP hQ
  have bx := add_x hQ hR
  have by' := add_y hQ hR
  have cx := add_x hPQ hR
  have cy := add_y hPQ hR
  have dx := add_x hQR hP
  have dy := add_y hQR hP
  have n1 := den_plus hP hQ
  have n2 := den_minus hP hQ
  have n3 := den_plus hQ hR
  have n4 := den_minus hQ hR
  have n5 := den_plus hPQ hR
  have n6 := den_minus hPQ hR
  have n7 := den_plus hQR hP
  have n8 := den_minus hQR hP
  have hl := add_lt (addP P Q) R
  have hr := add_lt (addP Q R) P
  have ix := assoc_x (d := dI) hP.2.2 hQ.2.2 hR.2.2
  have iy := assoc_y (d := dI) hP.2.2 hQ.2.2 hR.2.2
  rw [den_1] at cx dx
  rw [den_m] at cy dy
  have fx := cx
  have fy := cy
  have gx := dx
  have gy := dy
  have e1 : den 1 P Q = 1 + dI * ((P.1 : Int) * Q.1 * P.2 * Q.2) := by unfold den; grind
  have e2 : den (-1) P Q = 1 - dI * ((P.1 : Int) * Q.1 * P.2 * Q.2) := by unfold den; grind
  have e3 : den 1 Q R = 1 + dI * ((Q.1 : Int) * R.1 * Q.2 * R.2) := by unfold den; grind
  have e4 : den (-1) Q R = 1 - dI * ((Q.1 : Int) * R.1 * Q.2 * R.2) := by unfold den; grind
  rw [← e1, ← e2, ← e3, ← e4] at ix iy
  refine pt_same hl hr ?_ ?_
  · refine cross (lift_x (d := dI) (x3 := R.1) (y3 := R.2) ax ay fx) (lift_x (d := dI) (x3 := P.1) (y3 := P.2) bx by' gx) ?_ ?_ (ix.eq (by grind))
    · exact fun h => lift_ne (s := 1) ax ay n1 n2 n5 (h.eq (by rw [Int.one_mul]))
    · exact fun h => lift_ne (s := 1) bx by' n3 n4 n7 (h.eq (by rw [Int.one_mul]))
  · refine cross (lift_y (d := dI) (x3 := R.1) (y3 := R.2) ax ay fy) (lift_y (d := dI) (x3 := P.1) (y3 := P.2) bx by' gy) ?_ ?_ (iy.eq (by grind))
    · exact fun h => lift_ne (s := -1) ax ay n1 n2 n6 (h.eq (by rw [Int.neg_one_mul]; rfl))
    · exact fun h => lift_ne (s := -1) bx by' n3 n4 n8 (h.eq (by rw [Int.neg_one_mul]; rfl))
def zeroP : Pt := (0, 1)
def negP (P : Pt) : Pt := (cn (-(P.1 : Int)), P.2)
theorem zero_val : Val zeroP := ⟨by decide, by decide, Z.zero.eq (by unfold zeroP; simp)⟩
theorem add_zero' {P : Pt} (hP : Val P) : addP P zeroP = P :=
  add_is hP zero_val ⟨hP.1, hP.2.1⟩ (Z.zero.eq (by unfold den zeroP; simp)) (Z.zero.eq (by unfold den zeroP; simp))
theorem zero_add' {P : Pt} (hP : Val P) : addP zeroP P = P := by rw [add_comm' zero_val hP, add_zero' hP]
theorem neg_Z (P : Pt) : Z (((negP P).1 : Int) + P.1) := (cn_Z (-(P.1 : Int))).eq (by unfold negP; simp)
theorem neg_val {P : Pt} (hP : Val P) : Val (negP P) := by
  refine ⟨cn_lt _, hP.2.1, ?_⟩
  have h := neg_Z P
  have h2 := hP.2.2
  have e : (negP P).2 = P.2 := rfl
  unfold On at *
  rw [e]
  exact (h2.sub (h.mul (((negP P).1 : Int) - P.1 + dI * (((negP P).1 : Int) - P.1) * (P.2 * P.2)))).eq (by grind)
theorem add_neg' {P : Pt} (hP : Val P) : addP P (negP P) = zeroP := by
  have h := neg_Z P
  have h2 := hP.2.2
  have e : (negP P).2 = P.2 := rfl
  refine add_is hP (neg_val hP) ⟨by decide, by decide⟩ ?_ ?_
  · rw [e]
    exact (h.mul (-(P.2 : Int))).eq (by unfold zeroP; simp; grind)
  · unfold On at h2
    unfold den zeroP
    rw [e]
    exact ((h.mul (-(dI * P.1 * P.2 * P.2) - P.1)).sub h2).eq (by simp; grind)
theorem add_cancel {P Q R : Pt} (hP : Val P) (hQ : Val Q) (hR : Val R) (h : addP P R = addP Q R) : P = Q := by
  have : addP (addP P R) (negP R) = addP (addP Q R) (negP R) := by rw [h]
  rwa [add_assoc' hP hR (neg_val hR), add_assoc' hQ hR (neg_val hR), add_neg' hR, add_zero' hP, add_zero' hQ] at this
theorem neg_unique {P Q : Pt} (hP : Val P) (hQ : Val Q) (h : addP P Q = zeroP) : Q = negP P :=
  add_cancel hQ (neg_val hP) hP (by rw [add_comm' hQ hP, add_comm' (neg_val hP) hP, h, add_neg' hP])
def mulP : Nat → Pt → Pt
  | 0, _ => zeroP
  | n + 1, P => addP (mulP n P) P
theorem mul_val {P : Pt} (hP : Val P) : ∀ n, Val (mulP n P)
  | 0 => zero_val
  | n + 1 => by unfold mulP; exact add_val (mul_val hP n) hP
theorem mul_one' {P : Pt} (hP : Val P) : mulP 1 P = P := by unfold mulP mulP; exact zero_add' hP
theorem mul_add' {P : Pt} (hP : Val P) (m : Nat) : ∀ n, mulP (m + n) P = addP (mulP m P) (mulP n P)
  | 0 => by show mulP m P = addP (mulP m P) zeroP; rw [add_zero' (mul_val hP m)]
  | n + 1 => by
    show addP (mulP (m + n) P) P = addP (mulP m P) (addP (mulP n P) P)
    rw [mul_add' hP m n, add_assoc' (mul_val hP m) (mul_val hP n) hP]
theorem mul_mul' {P : Pt} (hP : Val P) (m : Nat) : ∀ n, mulP (n * m) P = mulP n (mulP m P)
  | 0 => by rw [Nat.zero_mul]; rfl
  | n + 1 => by rw [Nat.add_mul, Nat.one_mul, mul_add' hP, mul_mul' hP m n]; rfl
theorem mul_addP {P Q : Pt} (hP : Val P) (hQ : Val Q) : ∀ n, mulP n (addP P Q) = addP (mulP n P) (mulP n Q)
  | 0 => (add_zero' zero_val).symm
  | n + 1 => by
    have vP := mul_val hP n
    have vQ := mul_val hQ n
    show addP (mulP n (addP P Q)) (addP P Q) = addP (addP (mulP n P) P) (addP (mulP n Q) Q)
    rw [mul_addP hP hQ n, add_assoc' vP vQ (add_val hP hQ), ← add_assoc' vQ hP hQ, add_comm' vQ hP, add_assoc' hP vQ hQ, ← add_assoc' vP hP (add_val vQ hQ)]
theorem mul_zeroP : ∀ n, mulP n zeroP = zeroP
  | 0 => rfl
  | n + 1 => by show addP (mulP n zeroP) zeroP = zeroP; rw [mul_zeroP n, add_zero' zero_val]
theorem mul_gcd {P : Pt} (hP : Val P) : ∀ (s m n : Nat), m + n ≤ s → mulP m P = zeroP → mulP n P = zeroP → mulP (Nat.gcd m n) P = zeroP
  | 0, m, n, hs, h1, h2 => by
    obtain rfl : m = 0 := by omega
    obtain rfl : n = 0 := by omega
    rfl
  | s + 1, m, n, hs, h1, h2 => by
    rcases Nat.eq_zero_or_pos m with h | h
    · subst h; rw [Nat.gcd_zero_left]; exact h2
    · rcases Nat.eq_zero_or_pos n with h' | h'
      · subst h'; rw [Nat.gcd_zero_right]; exact h1
      · rcases Nat.le_total m n with hle | hle
        · have : mulP (n - m) P = zeroP := by
            have e : mulP ((n - m) + m) P = zeroP := by rw [Nat.sub_add_cancel hle]; exact h2
            rw [mul_add' hP, h1, add_zero' (mul_val hP _)] at e
            exact e
          have := mul_gcd hP s m (n - m) (by omega) h1 this
          rwa [Nat.gcd_sub_self_right hle] at this
        · have : mulP (m - n) P = zeroP := by
            have e : mulP ((m - n) + n) P = zeroP := by rw [Nat.sub_add_cancel hle]; exact h1
            rw [mul_add' hP, h2, add_zero' (mul_val hP _)] at e
            exact e
          have := mul_gcd hP s (m - n) n (by omega) this h2
          rwa [Nat.gcd_sub_self_left hle] at this
end Go.Proofs.Ytmpjigghgedjbaa
namespace Go.N
theorem prime_l0 : IsP 1224481 := prime_small (k := 552) (by omega) (by omega) (by kernel_rfl) (by omega)
theorem prime_l1 : IsP 531581 := prime_small (k := 364) (by omega) (by omega) (by kernel_rfl) (by omega)
theorem prime_l2 : IsP 1257559732178653 := step2 (k1 := 1027014492) (k2 := 2365697292) (a1 := 2) (a2 := 2) (u1 := 790900187493841) (u2 := 212927577457398) (f := 51) prime_l0 prime_l1 (by kernel_rfl) (by kernel_rfl) (by kernel_rfl) (by kernel_rfl) (by kernel_rfl) (by kernel_rfl) (by kernel_rfl) (by kernel_rfl) (by kernel_rfl) (by kernel_rfl)
theorem prime_l3 : IsP 4434155615661930479 := step1 (k1 := 3526) (a1 := 2) (u1 := 1010501025739283171) (f := 62) prime_l2 (by kernel_rfl) (by kernel_rfl) (by kernel_rfl) (by kernel_rfl) (by kernel_rfl) (by kernel_rfl)
theorem prime_l4 : IsP 172054593956031949258510691 := step1 (k1 := 38802110) (a1 := 2) (u1 := 154275350521713489305385904) (f := 88) prime_l3 (by kernel_rfl) (by kernel_rfl) (by kernel_rfl) (by kernel_rfl) (by kernel_rfl) (by kernel_rfl)
theorem prime_l5 : IsP 19757330305831588566944191468367130476339 := step1 (k1 := 114831751082918) (a1 := 2) (u1 := 16371654433361644093796961727196399386194) (f := 134) prime_l4 (by kernel_rfl) (by kernel_rfl) (by kernel_rfl) (by kernel_rfl) (by kernel_rfl) (by kernel_rfl)
theorem prime_l6 : IsP 276602624281642239937218680557139826668747 := step1 (k1 := 14) (a1 := 2) (u1 := 94074944912245044309966580483695483989395) (f := 138) prime_l5 (by kernel_rfl) (by kernel_rfl) (by kernel_rfl) (by kernel_rfl) (by kernel_rfl) (by kernel_rfl)
theorem prime_l7 : IsP 7237005577332262213973186563042994240857116359379907606001950938285454250989 := step1 (k1 := 26163907866482859529727157400808004) (a1 := 2) (u1 := 2233364593245673852815932892735013076939656528578070433728021143254617821614) (f := 253) prime_l6 (by kernel_rfl) (by kernel_rfl) (by kernel_rfl) (by kernel_rfl) (by kernel_rfl) (by kernel_rfl)
theorem prime_L : IsP 7237005577332262213973186563042994240857116359379907606001950938285454250989 := prime_l7
end Go.N
namespace Go.Proofs.Ytmpjigghgedjbaa
open Go Go.N
def fadd (a b : Nat) : Nat := (a + b) % p25519
def fsub (a b : Nat) : Nat := (a + (p25519 - b % p25519)) % p25519
def fmul (a b : Nat) : Nat := a * b % p25519
theorem fadd_Z (a b : Nat) : Z ((fadd a b : Int) - (a + b)) := by
  have : Z ((fadd a b : Int) - ((a + b : Nat) : Int)) := zmod.2 (by unfold fadd; exact Nat.mod_mod _ _)
  exact this.eq (by omega)
theorem fsub_Z (a b : Nat) : Z ((fsub a b : Int) - (a - b)) := by
  unfold Z fsub p25519; omega
theorem fmul_Z (a b : Nat) : Z ((fmul a b : Int) - a * b) := by
  have : Z ((fmul a b : Int) - ((a * b : Nat) : Int)) := zmod.2 (by unfold fmul; exact Nat.mod_mod _ _)
  exact this.eq (by rw [Int.natCast_mul])
def Ext (x y z t : Nat) (P : Pt) : Prop := ¬ Z (z : Int) ∧ Z ((x : Int) - P.1 * z) ∧ Z ((y : Int) - P.2 * z) ∧ Z ((t : Int) - P.1 * P.2 * z)
theorem ext_fin {P Q : Pt} (hP : Val P) (hQ : Val Q) {e f g h : Nat} {k l : Int} (hk : ¬ Z k) (hl : ¬ Z l)
    (h1 : Z ((e : Int) - k * (P.1 * Q.2 + P.2 * Q.1))) (h2 : Z ((g : Int) - k * den 1 P Q)) (h3 : Z ((f : Int) - l * den (-1) P Q)) (h4 : Z ((h : Int) - l * (P.2 * Q.2 + P.1 * Q.1))) :
    Ext (fmul e f) (fmul g h) (fmul f g) (fmul e h) (addP P Q) := by
  have ax := add_x hP hQ
  have ay := add_y hP hQ
  have n1 := den_plus hP hQ
  have n2 := den_minus hP hQ
  have m1 := fmul_Z e f
  have m2 := fmul_Z g h
  have m3 := fmul_Z f g
  have m4 := fmul_Z e h
  unfold Ext
  generalize ((addP P Q).1 : Int) = x at *
  generalize ((addP P Q).2 : Int) = y at *
  generalize den 1 P Q = Dp at *
  generalize den (-1) P Q = Dm at *
  generalize ((P.1 : Int) * Q.2 + P.2 * Q.1) = A at *
  generalize ((P.2 : Int) * Q.2 + P.1 * Q.1) = B at *
  have e1 : Z ((e : Int) - x * g) := ((h1.sub (h2.mul x)).sub (ax.mul k)).eq (by grind)
  have e2 : Z ((h : Int) - y * f) := ((h4.sub (h3.mul y)).sub (ay.mul l)).eq (by grind)
  have nf : ¬ Z (f : Int) := fun hz => Z.mul_ne hl n2 ((hz.sub h3).eq (by grind))
  have ng : ¬ Z (g : Int) := fun hz => Z.mul_ne hk n1 ((hz.sub h2).eq (by grind))
  refine ⟨fun hz => Z.mul_ne nf ng ((hz.sub m3).eq (by grind)), ?_, ?_, ?_⟩
  · exact ((m1.sub (m3.mul x)).add (e1.mul f)).eq (by grind)
  · exact ((m2.sub (m3.mul y)).add (e2.mul g)).eq (by grind)
  · exact ((m4.sub (m3.mul (x * y))).add ((e1.mul h).add (e2.mul (x * g)))).eq (by grind)
def xaE (x y px py : Nat) : Nat := fmul (fsub y x) (fsub py px)
def xbE (x y px py : Nat) : Nat := fmul (fadd y x) (fadd py px)
def xcE (t pt tw : Nat) : Nat := fmul (fmul t tw) pt
def xdE (z pz : Nat) : Nat := fadd (fmul z pz) (fmul z pz)
theorem ext_add {x y z t px py pz pt tw : Nat} {P Q : Pt} (hP : Val P) (hQ : Val Q) (h : Ext x y z t P) (k : Ext px py pz pt Q) (htw : Z ((tw : Int) - 2 * dI)) :
    Ext (fmul (fsub (xbE x y px py) (xaE x y px py)) (fsub (xdE z pz) (xcE t pt tw))) (fmul (fadd (xdE z pz) (xcE t pt tw)) (fadd (xbE x y px py) (xaE x y px py)))
      (fmul (fsub (xdE z pz) (xcE t pt tw)) (fadd (xdE z pz) (xcE t pt tw))) (fmul (fsub (xbE x y px py) (xaE x y px py)) (fadd (xbE x y px py) (xaE x y px py))) (addP P Q) := by
  obtain ⟨h0, h1, h2, h3⟩ := h
  obtain ⟨k0, k1, k2, k3⟩ := k
  have hk : ¬ Z (2 * ((z : Int) * pz)) := Z.mul_ne not_two (Z.mul_ne h0 k0)
  have ha : Z ((xaE x y px py : Int) - z * pz * (P.2 - P.1) * (Q.2 - Q.1)) := by
    have a1 := fmul_Z (fsub y x) (fsub py px)
    have a2 := fsub_Z y x
    have a3 := fsub_Z py px
    unfold xaE
    have b1 : Z ((fsub y x : Int) - z * (P.2 - P.1)) := ((a2.add h2).sub h1).eq (by grind)
    have b2 : Z ((fsub py px : Int) - pz * (Q.2 - Q.1)) := ((a3.add k2).sub k1).eq (by grind)
    generalize (fmul (fsub y x) (fsub py px) : Int) = u at *
    generalize (fsub y x : Int) = v at *
    generalize (fsub py px : Int) = w at *
    exact (a1.add ((b1.mul w).add (b2.mul (z * (P.2 - P.1))))).eq (by grind)
  have hb : Z ((xbE x y px py : Int) - z * pz * (P.2 + P.1) * (Q.2 + Q.1)) := by
    have a1 := fmul_Z (fadd y x) (fadd py px)
    have a2 := fadd_Z y x
    have a3 := fadd_Z py px
    unfold xbE
    have b1 : Z ((fadd y x : Int) - z * (P.2 + P.1)) := ((a2.add h2).add h1).eq (by grind)
    have b2 : Z ((fadd py px : Int) - pz * (Q.2 + Q.1)) := ((a3.add k2).add k1).eq (by grind)
    generalize (fmul (fadd y x) (fadd py px) : Int) = u at *
    generalize (fadd y x : Int) = v at *
    generalize (fadd py px : Int) = w at *
    exact (a1.add ((b1.mul w).add (b2.mul (z * (P.2 + P.1))))).eq (by grind)
  have hc : Z ((xcE t pt tw : Int) - 2 * (z * pz) * (dI * (P.1 * Q.1 * P.2 * Q.2))) := by
    have a1 := fmul_Z (fmul t tw) pt
    have a2 := fmul_Z t tw
    unfold xcE
    generalize (fmul (fmul t tw) pt : Int) = u at *
    generalize (fmul t tw : Int) = v at *
    have b1 : Z (v - 2 * dI * (P.1 * P.2 * z)) := ((a2.add (h3.mul tw)).add (htw.mul (P.1 * P.2 * z))).eq (by grind)
    exact ((a1.add (b1.mul pt)).add (k3.mul (2 * dI * (P.1 * P.2 * z)))).eq (by grind)
  have hd : Z ((xdE z pz : Int) - 2 * (z * pz)) := by
    have a1 := fadd_Z (fmul z pz) (fmul z pz)
    have a2 := fmul_Z z pz
    unfold xdE
    generalize (fadd (fmul z pz) (fmul z pz) : Int) = u at *
    generalize (fmul z pz : Int) = v at *
    exact (a1.add (a2.mul 2)).eq (by grind)
  have s1 := fsub_Z (xbE x y px py) (xaE x y px py)
  have s2 := fsub_Z (xdE z pz) (xcE t pt tw)
  have s3 := fadd_Z (xdE z pz) (xcE t pt tw)
  have s4 := fadd_Z (xbE x y px py) (xaE x y px py)
  refine ext_fin hP hQ hk hk ?_ ?_ ?_ ?_
  · exact ((s1.add hb).sub ha).eq (by grind)
  · exact ((s3.add hd).add hc).eq (by unfold den; grind)
  · exact ((s2.add hd).sub hc).eq (by unfold den; grind)
  · exact ((s4.add hb).add ha).eq (by grind)
def dhE (x y : Nat) : Nat := fadd (fmul x x) (fmul y y)
def deE (x y : Nat) : Nat := fsub (dhE x y) (fmul (fadd x y) (fadd x y))
def dgE (x y : Nat) : Nat := fsub (fmul x x) (fmul y y)
def dfE (x y z : Nat) : Nat := fadd (fadd (fmul z z) (fmul z z)) (dgE x y)
theorem ext_double {x y z t : Nat} {P : Pt} (hP : Val P) (h : Ext x y z t P) :
    Ext (fmul (deE x y) (dfE x y z)) (fmul (dgE x y) (dhE x y)) (fmul (dfE x y z) (dgE x y)) (fmul (deE x y) (dhE x y)) (addP P P) := by
  obtain ⟨h0, h1, h2, h3⟩ := h
  have hl : ¬ Z ((z : Int) * z) := Z.mul_ne h0 h0
  have hk : ¬ Z (-((z : Int) * z)) := fun hz => hl (hz.neg.eq (by omega))
  have hx := sq_of (x := P.1) (D := z) (A := x) (h1.neg.eq (by grind))
  have hy := sq_of (x := P.2) (D := z) (A := y) (h2.neg.eq (by grind))
  have hon := hP.2.2
  unfold On at hon
  have a1 := fmul_Z x x
  have a2 := fmul_Z y y
  have a3 := fmul_Z z z
  have hh : Z ((dhE x y : Int) - z * z * (P.2 * P.2 + P.1 * P.1)) := by
    have b := fadd_Z (fmul x x) (fmul y y)
    unfold dhE
    exact ((((b.add a1).add a2).sub hx).sub hy).eq (by grind)
  have hg : Z ((dgE x y : Int) - -((z : Int) * z) * den 1 P P) := by
    have b := fsub_Z (fmul x x) (fmul y y)
    unfold dgE
    exact (((((b.add a1).sub a2).sub hx).add hy).sub (hon.mul (z * z))).eq (by unfold den; grind)
  have hf : Z ((dfE x y z : Int) - z * z * den (-1) P P) := by
    have b := fadd_Z (fadd (fmul z z) (fmul z z)) (dgE x y)
    have c := fadd_Z (fmul z z) (fmul z z)
    unfold dfE
    exact (((b.add c).add (a3.mul 2)).add hg).eq (by unfold den; grind)
  have he : Z ((deE x y : Int) - -((z : Int) * z) * (P.1 * P.2 + P.2 * P.1)) := by
    have b := fsub_Z (dhE x y) (fmul (fadd x y) (fadd x y))
    have c := fmul_Z (fadd x y) (fadd x y)
    have d := fadd_Z x y
    have s : Z ((fadd x y : Int) - z * (P.1 + P.2)) := ((d.add h1).add h2).eq (by grind)
    unfold deE
    generalize (fmul (fadd x y) (fadd x y) : Int) = u at *
    generalize (fadd x y : Int) = v at *
    exact (((b.add hh).sub c).sub (s.mul (v + z * (P.1 + P.2)))).eq (by grind)
  exact ext_fin hP hP hk hl he hg hf hh
theorem ext_point {x y z t : Nat} {P : Pt} (hP : Val P) (h : Ext x y z t P) : fmul x (pw z 57896044618658097711785492504343953926634992332820282019728792003956564819947) = P.1 ∧ fmul y (pw z 57896044618658097711785492504343953926634992332820282019728792003956564819947) = P.2 := by
  obtain ⟨h0, h1, h2, h3⟩ := h
  have hi : Z (((pw z 57896044618658097711785492504343953926634992332820282019728792003956564819947 : Nat) : Int) * z - 1) := by have := inv_Z h0; unfold inv at this; exact this
  have m1 := fmul_Z x (pw z 57896044618658097711785492504343953926634992332820282019728792003956564819947)
  have m2 := fmul_Z y (pw z 57896044618658097711785492504343953926634992332820282019728792003956564819947)
  have l1 : fmul x (pw z 57896044618658097711785492504343953926634992332820282019728792003956564819947) < p25519 := Nat.mod_lt _ (by decide)
  have l2 : fmul y (pw z 57896044618658097711785492504343953926634992332820282019728792003956564819947) < p25519 := Nat.mod_lt _ (by decide)
  generalize pw z 57896044618658097711785492504343953926634992332820282019728792003956564819947 = i at *
  exact ⟨Z.small l1 hP.1 (((m1.add (h1.mul i)).add (hi.mul P.1)).eq (by grind)), Z.small l2 hP.2.1 (((m2.add (h2.mul i)).add (hi.mul P.2)).eq (by grind))⟩
theorem ext_of (P : Pt) : Ext P.1 P.2 1 (fmul P.1 P.2) P :=
  ⟨fun h => not_one (h.eq (by simp)), Z.zero.eq (by simp), Z.zero.eq (by simp), (fmul_Z P.1 P.2).eq (by simp)⟩
def baseP : Pt := (15112221349535400772501151409588531511454012693041857206046113283949847762202, 46316835694926478169428394003475163141307993866256225615783033603165251855960)
theorem base_val : Val baseP := ⟨by decide, by decide, by unfold On Z baseP dI; decide +kernel⟩
theorem tw_Z : Z (((fadd dN dN : Nat) : Int) - 2 * dI) := (fadd_Z dN dN).eq (by rw [show ((dN : Nat) : Int) = dI from rfl]; omega)
theorem fmul_big (a b : Nat) : fmul a b < 115792089237316195423570985008687907853269984665640564039457584007913129639936 := mod_big _
theorem fadd_big (a b : Nat) : fadd a b < 115792089237316195423570985008687907853269984665640564039457584007913129639936 := mod_big _
theorem fsub_big (a b : Nat) : fsub a b < 115792089237316195423570985008687907853269984665640564039457584007913129639936 := mod_big _
attribute [irreducible] fadd fsub fmul
end Go.Proofs.Ytmpjigghgedjbaa
namespace Go.Proofs.Ytmpjigghgedjbaa
open Go Go.N
def pack (x y z t : Nat) : Nat := x + 115792089237316195423570985008687907853269984665640564039457584007913129639936 * (y + 115792089237316195423570985008687907853269984665640564039457584007913129639936 * (z + 115792089237316195423570985008687907853269984665640564039457584007913129639936 * t))
def pk0 (s : Nat) : Nat := s % 115792089237316195423570985008687907853269984665640564039457584007913129639936
def pkr (s : Nat) : Nat := s / 115792089237316195423570985008687907853269984665640564039457584007913129639936
def dblN (s : Nat) : Nat := pack (fmul (deE (pk0 s) (pk0 (pkr s))) (dfE (pk0 s) (pk0 (pkr s)) (pk0 (pkr (pkr s))))) (fmul (dgE (pk0 s) (pk0 (pkr s))) (dhE (pk0 s) (pk0 (pkr s)))) (fmul (dfE (pk0 s) (pk0 (pkr s)) (pk0 (pkr (pkr s)))) (dgE (pk0 s) (pk0 (pkr s)))) (fmul (deE (pk0 s) (pk0 (pkr s))) (dhE (pk0 s) (pk0 (pkr s))))
def addB (x y z t px py pz pt tw : Nat) : Nat := pack (fmul (fsub (xbE x y px py) (xaE x y px py)) (fsub (xdE z pz) (xcE t pt tw))) (fmul (fadd (xdE z pz) (xcE t pt tw)) (fadd (xbE x y px py) (xaE x y px py)))
      (fmul (fsub (xdE z pz) (xcE t pt tw)) (fadd (xdE z pz) (xcE t pt tw))) (fmul (fsub (xbE x y px py) (xaE x y px py)) (fadd (xbE x y px py) (xaE x y px py)))
def baseT : Nat := fmul baseP.1 baseP.2
def addN (s : Nat) : Nat := addB (pk0 s) (pk0 (pkr s)) (pk0 (pkr (pkr s))) (pkr (pkr (pkr s))) baseP.1 baseP.2 1 baseT (fadd dN dN)
def goN (n m : Nat) : Nat → Nat
  | 0 => pack 0 1 1 0
  | k + 1 => bif Nat.beq (n / 2 ^ (m - (k + 1)) % 2) 1 then addN (dblN (goN n m k)) else dblN (goN n m k)
theorem pk0_pack {x y z t : Nat} (hx : x < 115792089237316195423570985008687907853269984665640564039457584007913129639936) : pk0 (pack x y z t) = x := by unfold pk0 pack; omega
theorem pkr_pack {x y z t : Nat} (hx : x < 115792089237316195423570985008687907853269984665640564039457584007913129639936) : pkr (pack x y z t) = y + 115792089237316195423570985008687907853269984665640564039457584007913129639936 * (z + 115792089237316195423570985008687907853269984665640564039457584007913129639936 * t) := by unfold pkr pack; omega
theorem pk_all {x y z t : Nat} (hx : x < 115792089237316195423570985008687907853269984665640564039457584007913129639936) (hy : y < 115792089237316195423570985008687907853269984665640564039457584007913129639936) (hz : z < 115792089237316195423570985008687907853269984665640564039457584007913129639936) : pk0 (pack x y z t) = x ∧ pk0 (pkr (pack x y z t)) = y ∧ pk0 (pkr (pkr (pack x y z t))) = z ∧ pkr (pkr (pkr (pack x y z t))) = t := by
  refine ⟨pk0_pack hx, ?_, ?_, ?_⟩
  · rw [pkr_pack hx]; unfold pk0; omega
  · rw [pkr_pack hx]; unfold pk0 pkr; omega
  · rw [pkr_pack hx]; unfold pkr; omega
def ExtN (s : Nat) (P : Pt) : Prop := Ext (pk0 s) (pk0 (pkr s)) (pk0 (pkr (pkr s))) (pkr (pkr (pkr s))) P
theorem extN_pack {x y z t : Nat} {P : Pt} (hx : x < 115792089237316195423570985008687907853269984665640564039457584007913129639936) (hy : y < 115792089237316195423570985008687907853269984665640564039457584007913129639936) (hz : z < 115792089237316195423570985008687907853269984665640564039457584007913129639936) (h : Ext x y z t P) : ExtN (pack x y z t) P := by
  obtain ⟨h1, h2, h3, h4⟩ := pk_all (t := t) hx hy hz
  unfold ExtN
  rw [h1, h2, h3, h4]
  exact h
theorem extN_dbl {s : Nat} {P : Pt} (hP : Val P) (h : ExtN s P) : ExtN (dblN s) (addP P P) := extN_pack (fmul_big _ _) (fmul_big _ _) (fmul_big _ _) (ext_double hP h)
theorem extN_add {s : Nat} {P : Pt} (hP : Val P) (h : ExtN s P) : ExtN (addN s) (addP P baseP) := extN_pack (fmul_big _ _) (fmul_big _ _) (fmul_big _ _) (ext_add hP base_val h (ext_of baseP) tw_Z)
attribute [irreducible] ExtN dblN addN pack
theorem goN_ext {n m : Nat} (hn : n < 2 ^ m) : ∀ k, k ≤ m → ExtN (goN n m k) (mulP (n / 2 ^ (m - k)) baseP)
  | 0, _ => by
    rw [Nat.sub_zero, Nat.div_eq_of_lt hn]
    show ExtN (pack 0 1 1 0) _
    refine extN_pack (by decide) (by decide) (by decide) ⟨fun h => not_one (h.eq (by simp)), ?_, ?_, ?_⟩
    · exact Z.zero.eq (by unfold mulP zeroP; simp)
    · exact Z.zero.eq (by unfold mulP zeroP; simp)
    · exact Z.zero.eq (by unfold mulP zeroP; simp)
  | k + 1, hk => by
    have ih := goN_ext hn k (by omega)
    have v := mul_val base_val (n / 2 ^ (m - k))
    have e : n / 2 ^ (m - (k + 1)) = n / 2 ^ (m - k) + n / 2 ^ (m - k) + n / 2 ^ (m - (k + 1)) % 2 := by
      rw [show m - k = (m - (k + 1)) + 1 by omega, Nat.pow_succ, ← Nat.div_div_eq_div_mul]; omega
    have d := extN_dbl v ih
    rw [← mul_add' base_val] at d
    unfold goN
    cases hb : Nat.beq (n / 2 ^ (m - (k + 1)) % 2) 1 with
    | true =>
      rw [Nat.eq_of_beq_eq_true hb] at e
      rw [e, cond_true]
      exact extN_add (mul_val base_val _) d
    | false =>
      have := Nat.ne_of_beq_eq_false hb
      rw [show n / 2 ^ (m - (k + 1)) % 2 = 0 by omega, Nat.add_zero] at e
      rw [e, cond_false]
      exact d
theorem go_L : (Nat.beq (pk0 (goN 7237005577332262213973186563042994240857116359379907606001950938285454250989 253 253)) 0 && Nat.beq (pk0 (pkr (goN 7237005577332262213973186563042994240857116359379907606001950938285454250989 253 253))) (pk0 (pkr (pkr (goN 7237005577332262213973186563042994240857116359379907606001950938285454250989 253 253))))) = true := by decide +kernel
attribute [irreducible] goN
theorem ext_zero {x y z t : Nat} {P : Pt} (hP : Val P) (h : Ext x y z t P) (hx : x = 0) (hy : y = z) : P = zeroP := by
  subst hx hy
  obtain ⟨h0, h1, h2, h3⟩ := h
  refine pt_same ⟨hP.1, hP.2.1⟩ ⟨by decide, by decide⟩ ?_ ?_
  · have : Z ((P.1 : Int) * y) := h1.neg.eq (by simp)
    exact (this.prime.resolve_right h0).eq (by unfold zeroP; simp)
  · have : Z ((P.2 - 1 : Int) * y) := h2.neg.eq (by grind)
    exact (this.prime.resolve_right h0).eq (by unfold zeroP; simp)
theorem base_order : mulP 7237005577332262213973186563042994240857116359379907606001950938285454250989 baseP = zeroP := by
  have h := goN_ext (n := 7237005577332262213973186563042994240857116359379907606001950938285454250989) (m := 253) (by decide) 253 (Nat.le_refl _)
  rw [Nat.sub_self, Nat.pow_zero, Nat.div_one] at h
  have g := go_L
  simp only [Bool.and_eq_true] at g
  unfold ExtN at h
  exact ext_zero (mul_val base_val _) h (Nat.eq_of_beq_eq_true g.1) (Nat.eq_of_beq_eq_true g.2)
theorem base_ne : baseP ≠ zeroP := by unfold baseP zeroP; intro h; exact absurd (congrArg Prod.fst h) (by decide)
theorem base_mul_L (k : Nat) : mulP (k * 7237005577332262213973186563042994240857116359379907606001950938285454250989) baseP = zeroP := by rw [mul_mul' base_val, base_order, mul_zeroP]
theorem base_mod (k : Nat) : mulP (k % 7237005577332262213973186563042994240857116359379907606001950938285454250989) baseP = mulP k baseP := by
  have h : k = k / 7237005577332262213973186563042994240857116359379907606001950938285454250989 * 7237005577332262213973186563042994240857116359379907606001950938285454250989 + k % 7237005577332262213973186563042994240857116359379907606001950938285454250989 := by omega
  have h2 : mulP k baseP = mulP (k / 7237005577332262213973186563042994240857116359379907606001950938285454250989 * 7237005577332262213973186563042994240857116359379907606001950938285454250989 + k % 7237005577332262213973186563042994240857116359379907606001950938285454250989) baseP := by rw [← h]
  rw [h2, mul_add' base_val, base_mul_L, zero_add' (mul_val base_val _)]
theorem base_iff (k : Nat) : mulP k baseP = zeroP ↔ k % 7237005577332262213973186563042994240857116359379907606001950938285454250989 = 0 := by
  constructor
  · intro h
    have hg := mul_gcd base_val _ k 7237005577332262213973186563042994240857116359379907606001950938285454250989 (Nat.le_refl _) h base_order
    rcases prime_L.2 _ (Nat.gcd_dvd_right k 7237005577332262213973186563042994240857116359379907606001950938285454250989) with h1 | h1
    · rw [h1, mul_one' base_val] at hg
      exact absurd hg base_ne
    · exact Nat.mod_eq_zero_of_dvd (h1 ▸ Nat.gcd_dvd_left k 7237005577332262213973186563042994240857116359379907606001950938285454250989)
  · intro h
    rw [← base_mod, h]
    rfl
theorem base_small (k : Nat) : mulP 8 (mulP k baseP) = zeroP ↔ mulP k baseP = zeroP := by
  rw [← mul_mul' base_val, base_iff, base_iff]
  constructor
  · intro h
    rcases prime_L.euclid (Nat.dvd_of_mod_eq_zero h) with h1 | h1
    · exact absurd (Nat.le_of_dvd (by decide) h1) (by decide)
    · exact Nat.mod_eq_zero_of_dvd h1
  · intro h
    rw [Nat.mul_mod, h]
theorem eight {P : Pt} (hP : Val P) : mulP 8 P = addP (addP (addP P P) (addP P P)) (addP (addP P P) (addP P P)) := by
  have h2 : addP P P = mulP 2 P := by show _ = addP (mulP 1 P) P; rw [mul_one' hP]
  rw [h2, ← mul_add' hP, ← mul_add' hP]
theorem small_add {P Q : Pt} (hP : Val P) (hQ : Val Q) (h : mulP 8 P = zeroP) : mulP 8 (addP P Q) = mulP 8 Q := by
  rw [mul_addP hP hQ, h, zero_add' (mul_val hQ 8)]
theorem mul_neg {P : Pt} (hP : Val P) (n : Nat) : mulP n (negP P) = negP (mulP n P) :=
  neg_unique (mul_val hP n) (mul_val (neg_val hP) n) (by rw [← mul_addP hP (neg_val hP), add_neg' hP, mul_zeroP])
theorem neg_zero' : negP zeroP = zeroP := (neg_unique zero_val zero_val (add_zero' zero_val)).symm
theorem neg_neg' {P : Pt} (hP : Val P) : negP (negP P) = P := (neg_unique (neg_val hP) hP (by rw [add_comm' (neg_val hP) hP, add_neg' hP])).symm
theorem neg_add' {P Q : Pt} (hP : Val P) (hQ : Val Q) : negP (addP P Q) = addP (negP P) (negP Q) := by
  have nP := neg_val hP
  have nQ := neg_val hQ
  refine (neg_unique (add_val hP hQ) (add_val nP nQ) ?_).symm
  rw [add_comm' nP nQ, add_assoc' hP hQ (add_val nQ nP), ← add_assoc' hQ nQ nP, add_neg' hQ, zero_add' nP, add_neg' hP]
theorem neg_eq_zero {P : Pt} (hP : Val P) : negP P = zeroP ↔ P = zeroP :=
  ⟨fun h => by rw [← neg_neg' hP, h, neg_zero'], fun h => by rw [h, neg_zero']⟩
theorem below_ne (y : Int) : ¬ Z (dI * (y * y) + 1) := fun h => by
  have h1 : Z (iI * iI - dI * (y * y)) := (i_sq.sub h).eq (by grind)
  have h2 := d_nsq h1
  exact not_one ((h.sub (h2.mul (dI * y))).eq (by grind))
theorem on_iff {x y : Int} : On x y ↔ Z (x * x * (dI * (y * y) + 1) - (y * y - 1)) :=
  ⟨fun h => h.neg.eq (by grind), fun h => h.neg.eq (by grind)⟩
end Go.Proofs.Ytmpjigghgedjbaa
namespace Go.Proofs.Ytmpjigghgedjbaa
open Go Go.RowKit Go.V Go.N
theorem pw_pm {a e : Nat} (h : e < 115792089237316195423570985008687907853269984665640564039457584007913129639936) : pw a e = pm p25519 256 a e := by rw [pw_def, pm_eq _ _ _ _ h]
theorem pw_at {a e v : Nat} (h : e < 115792089237316195423570985008687907853269984665640564039457584007913129639936) (hv : Nat.beq (pm p25519 256 a e) v = true) : pw a e = v := by rw [pw_pm h]; exact Nat.eq_of_beq_eq_true hv
theorem pw_4 : pw 4 7237005577332262213973186563042994240829374041602535252466099000494570602494 = 39362322753415011913614158609977084030892133031847780325488042146247659569504 := pw_at (by decide) (by kernel_rfl)
theorem pw_2 : pw 2 7237005577332262213973186563042994240829374041602535252466099000494570602494 = 19681161376707505956807079304988542015446066515923890162744021073123829784753 := pw_at (by decide) (by kernel_rfl)
theorem pw_i : pw 2 14474011154664524427946373126085988481658748083205070504932198000989141204987 = 19681161376707505956807079304988542015446066515923890162744021073123829784752 := pw_at (by decide) (by kernel_rfl)
theorem inv_2 : 2 * pw 2 57896044618658097711785492504343953926634992332820282019728792003956564819947 % p25519 = 1 := by rw [pw_at (v := 28948022309329048855892746252171976963317496166410141009864396001978282409975) (by decide) (by kernel_rfl)]; decide
theorem rootB_of {N a i b : Nat} (ha : rootA N = a) (hi : pw 2 14474011154664524427946373126085988481658748083205070504932198000989141204987 = i) (hb : (if a * a % p25519 % p25519 = N % p25519 then a else a * i % p25519) = b) : rootB N = b := by subst ha; subst hi; exact hb
theorem rootB_4 : rootB 4 = 57896044618658097711785492504343953926634992332820282019728792003956564819947 := rootB_of (show rootA 4 = _ from pw_4) pw_i (by decide)
theorem rootB_2 : rootB 2 = 19681161376707505956807079304988542015446066515923890162744021073123829784751 := rootB_of (show rootA 2 = _ from pw_2) pw_i (by decide)
theorem has_4 : hasRoot 4 := by unfold hasRoot; rw [rootB_4]; decide
theorem has_2 : ¬ hasRoot 2 := by unfold hasRoot; rw [rootB_2]; decide
theorem root_4 : rootC 4 = 2 := by unfold rootC; rw [if_pos has_4, rootB_4]; decide
set_option maxHeartbeats 4000000 in
set_option maxRecDepth 20000 in
theorem lives_c (w : World) : Calls Try.prog 15 #[] w (Ret fun v w' => v = .bool true ∧ Grow w w') := by
  refine V.calls (args := []) Try.func15 rfl Try.ntmps15 rfl rfl ?_
  have hi2 := inv_2
  repeat (first | (refine TL.isAsg ?_; first | refine TL.pure rfl rfl ?_) | refine TL.nil ?_ | refine thenQ_normal ?_ | refine T.seq ?_ | refine T.region ?_)
  refine TL.call rfl (of_c 0 (by decide) _) rfl ?_
  rintro _ wa ⟨rfl, hga⟩
  refine TL.call rfl (of_c 1 (by decide) _) rfl ?_
  rintro _ wb ⟨rfl, hgb⟩
  refine TL.call rfl (sub_c 0 1 (by decide) (by decide) _) rfl ?_
  rintro _ wc ⟨rfl, hgc⟩
  rw [show (0 + (p25519 - 1 % p25519)) % p25519 = 57896044618658097711785492504343953926634992332820282019728792003956564819948 from by decide]
  repeat (first | refine TL.nil ?_ | refine thenQ_normal ?_ | refine T.seq ?_ | refine T.region ?_ | (refine TL.isStore ?_; first | (refine TL.storeWh rfl rfl yB (by exact rfl) (by exact rfl) (by exact rfl) ?_; intro w' hu hbk hsz)) | (refine TL.isAlloc ?_; first | (refine TL.alloc rfl rfl ?_; intro bk w' hg hbk hsz hsz')))
  refine TL.call rfl (of_c 4 (by decide) _) rfl ?_
  rintro _ wd ⟨rfl, hgd⟩
  refine TL.call rfl (root_c 4 (by decide) _) rfl ?_
  rintro _ we ⟨rfl, hge⟩
  rw [root_4, decide_eq_true has_4]
  repeat (first | (refine TL.isMove ?_; first | refine TL.pure rfl rfl ?_) | (refine TL.isAsg ?_; first | refine TL.pure rfl rfl ?_) | refine TL.nil ?_ | refine thenQ_normal ?_ | refine T.seq ?_ | refine T.region ?_ | (refine TL.isStore ?_; first | (refine TL.storeWh rfl rfl yB (by exact rfl) (by exact rfl) (by exact rfl) ?_; intro w' hu hbk hsz)) | (refine TL.isAlloc ?_; first | (refine TL.alloc rfl rfl ?_; intro bk w' hg hbk hsz hsz')) | refine TL.pure rfl rfl ?_)
  refine TL.call rfl (of_c 2 (by decide) _) rfl ?_
  rintro _ wf ⟨rfl, hgf⟩
  refine TL.call rfl (root_c 2 (by decide) _) rfl ?_
  rintro _ wg ⟨rfl, hgg⟩
  rw [decide_eq_false has_2]
  repeat (first | (refine TL.isMove ?_; first | refine TL.pure rfl rfl ?_) | (refine TL.isAsg ?_; first | refine TL.pure rfl rfl ?_) | refine TL.nil ?_ | refine thenQ_normal ?_ | refine T.seq ?_ | (refine TL.isStore ?_; first | (refine TL.storeWh rfl rfl yB (by exact rfl) (by exact rfl) (by exact rfl) ?_; intro w' hu hbk hsz)) | (refine TL.isAlloc ?_; first | (refine TL.alloc rfl rfl ?_; intro bk w' hg hbk hsz hsz')) | refine TL.pure rfl rfl ?_)
  have hs1 : (57896044618658097711785492504343953926634992332820282019728792003956564819948 + 2) % p25519 = 1 := by decide
  have hs2 : (p25519 - 0 % p25519) % p25519 = 0 := by decide
  have hb1 : pw 2 57896044618658097711785492504343953926634992332820282019728792003956564819947 < 115792089237316195423570985008687907853269984665640564039457584007913129639936 := pw_big _ _
  apply T.any 31 [is _, is _, is _, is _, is _, is _, is _, is _, is _, is _, is _, is _, is _, is _, is (num 0), is _, is (num 0), is _, is _, is _, is _, is _, is _, is _, is _, is _, is _, is _, is _, is _, is _]; (· first | kernel_rfl); (· ((repeat' (first | exact allDo_end | refine allDo_cons ?_ ?_)); (iterate 31 (· ((first | refine does_mk0 rfl rfl rfl ?_ | refine does_mk rfl rfl rfl rfl ?_); ( intro wq _ _ hgq; (repeat (refine need_cons rfl rfl ?_; intro vq hvq; try (obtain rfl := hvq))); (refine need_nil ?_)); (repeat (first | (refine TL.isGuard ?_; first | refine TL.guard_run rfl rfl rfl ?_) | (refine TL.isMove ?_; first | refine TL.pure rfl rfl ?_) | (refine TL.isLoad ?_; first | refine TL.loadW rfl yB (by exact rfl) rfl ?_) | refine TL.nil ?_ | (refine TL.isBuild ?_; first | refine TL.buildArr rfl rfl rfl ?_) | refine TL.pure rfl rfl ?_ | (refine TL.call rfl (of_c 2 (by decide) _) rfl ?_; rintro _ _ ⟨rfl, hgc⟩) | (refine TL.call rfl (of_c 1 (by decide) _) rfl ?_; rintro _ _ ⟨rfl, hgc⟩) | (refine TL.call rfl (add_c _ _ (by decide) (by decide) _) rfl ?_; rintro _ _ ⟨rfl, hgc⟩) | (refine TL.call rfl (inv_c _ (by decide) _) rfl ?_; rintro _ _ ⟨rfl, hgc⟩) | (refine TL.call rfl (mul_c _ _ (by decide) (by assumption) _) rfl ?_; rintro _ _ ⟨rfl, hgc⟩) | (refine TL.call rfl (neg_c 0 (by decide) _) rfl ?_; rintro _ _ ⟨rfl, hgc⟩) | (refine TL.eqArr (xs := numL _) (ys := numL _) true rfl rfl rfl (by trivial) rfl ⟨fun _ => congrArg numL (by first | assumption | rfl), fun _ => rfl⟩ rfl ?_))); first | exact one_end rfl yG rfl))))); (rintro _ _ _ hgr _ _; (repeat (refine need_cons rfl rfl ?_; intro vq hvq; try (obtain rfl := hvq))); (refine need_nil ?_))
  repeat (first | (refine TL.isAsg ?_; first | refine TL.pure rfl rfl ?_) | refine TL.nil ?_ | refine thenQ_normal ?_ | refine T.ret ?_)
  exact ret1 rfl ⟨_, rfl, rfl, yG⟩
end Go.Proofs.Ytmpjigghgedjbaa
namespace Go.Proofs.Ytmpjigghgedjbaa
open Go Go.RowKit Go.V Go.N
def ptL (x y : Nat) : List Value := numL x ++ numL y
abbrev pt (P : Pt) : Value := .agg (ptL P.1 P.2).toArray
theorem numL_l32 (N : Nat) : (numL N).length = 32 := rfl
theorem mul_f (N M : Nat) (hN : N < 115792089237316195423570985008687907853269984665640564039457584007913129639936) (hM : M < 115792089237316195423570985008687907853269984665640564039457584007913129639936) (w : World) : Calls Try.prog 21 #[num N, num M] w (Ret fun v w' => v = num (fmul N M) ∧ Grow w w') := by unfold fmul; exact mul_c N M hN hM w
theorem add_f (N M : Nat) (hN : N < 115792089237316195423570985008687907853269984665640564039457584007913129639936) (hM : M < 115792089237316195423570985008687907853269984665640564039457584007913129639936) (w : World) : Calls Try.prog 30 #[num N, num M] w (Ret fun v w' => v = num (fadd N M) ∧ Grow w w') := by unfold fadd; exact add_c N M hN hM w
theorem sub_f (N M : Nat) (hN : N < 115792089237316195423570985008687907853269984665640564039457584007913129639936) (hM : M < 115792089237316195423570985008687907853269984665640564039457584007913129639936) (w : World) : Calls Try.prog 32 #[num N, num M] w (Ret fun v w' => v = num (fsub N M) ∧ Grow w w') := by unfold fsub; exact sub_c N M hN hM w
theorem on_diff (x y : Nat) : Z (((fsub (fmul y y) (fmul x x) : Int) - (fadd 1 (fmul dN (fmul (fmul x x) (fmul y y))) : Nat)) - ((y : Int) * y - x * x - 1 - dI * (x * x) * (y * y))) := by
  have a1 := fmul_Z y y
  have a2 := fmul_Z x x
  have s := fsub_Z (fmul y y) (fmul x x)
  have m := fmul_Z (fmul x x) (fmul y y)
  have m2 := fmul_Z dN (fmul (fmul x x) (fmul y y))
  have r := fadd_Z 1 (fmul dN (fmul (fmul x x) (fmul y y)))
  rw [show ((dN : Nat) : Int) = dI from rfl] at m2
  generalize (fsub (fmul y y) (fmul x x) : Int) = S at *
  generalize ((fadd 1 (fmul dN (fmul (fmul x x) (fmul y y))) : Nat) : Int) = R at *
  generalize ((fmul dN (fmul (fmul x x) (fmul y y)) : Nat) : Int) = M2 at *
  generalize ((fmul (fmul x x) (fmul y y) : Nat) : Int) = M at *
  generalize ((fmul y y : Nat) : Int) = Y at *
  generalize ((fmul x x : Nat) : Int) = X at *
  generalize (x : Int) = u at *
  generalize (y : Int) = v at *
  exact ((((s.sub r).sub m2).sub (m.mul dI)).sub ((a2.mul (dI * Y)).add (a1.mul (dI * (u * u)))) |>.add (a1.sub a2)).eq (by simp; grind)
theorem f_lt (a b : Nat) : fmul a b < p25519 ∧ fadd a b < p25519 ∧ fsub a b < p25519 := by
  unfold fmul fadd fsub
  exact ⟨Nat.mod_lt _ (by decide), Nat.mod_lt _ (by decide), Nat.mod_lt _ (by decide)⟩
theorem on_dec (x y : Nat) : fsub (fmul y y) (fmul x x) = fadd 1 (fmul dN (fmul (fmul x x) (fmul y y))) ↔ On x y := by
  have h := on_diff x y
  unfold On
  constructor
  · intro e
    rw [e] at h
    exact h.neg.eq (by grind)
  · intro k
    exact Z.small (f_lt _ _).2.2 (f_lt _ _).2.1 ((h.add k).eq (by grind))
theorem canon_y (N : Nat) (h : N < p25519) (w : World) : Calls Try.prog 24 #[num N] w (Ret fun v w' => v = .bool true ∧ Grow w w') := by
  have := canon_c N (Nat.lt_trans h (by decide)) w
  rwa [decide_eq_true (Nat.mod_eq_of_lt h)] at this
theorem canon_n (N : Nat) (hN : N < 115792089237316195423570985008687907853269984665640564039457584007913129639936) (h : ¬ N < p25519) (w : World) : Calls Try.prog 24 #[num N] w (Ret fun v w' => v = .bool false ∧ Grow w w') := by
  have := canon_c N hN w
  rwa [decide_eq_false (fun e => h (by rw [← e]; exact Nat.mod_lt _ (by decide)))] at this
theorem neg_num (P : Pt) : (p25519 - P.1 % p25519) % p25519 = (negP P).1 := by
  show _ = cn (-(P.1 : Int))
  refine (cn_of (Nat.mod_lt _ (by decide)) ?_).symm
  unfold Z p25519
  omega
end Go.Proofs.Ytmpjigghgedjbaa
namespace Go.Proofs.Ytmpjigghgedjbaa
open Go Go.RowKit Go.V
theorem b1_eq {x y : Nat} (h : x = y) : some (B1 x) = some (B1 y) := by rw [h]
def byteN (N i : Nat) : Nat := N / 256 ^ i % 256
theorem byteN_lt (N i : Nat) : byteN N i < 256 := Nat.mod_lt _ (by decide)
theorem numL_at {N : Nat} : ∀ {i : Nat}, i < 32 → (numL N)[i]? = some (B1 (byteN N i))
  | 0, _ => b1_eq (show (N % 18446744073709551616) % 256 = N / 1 % 256 by omega)
  | 1, _ => b1_eq (show (N % 18446744073709551616) / 256 % 256 = N / 256 % 256 by omega)
  | 2, _ => b1_eq (show (N % 18446744073709551616) / 65536 % 256 = N / 65536 % 256 by omega)
  | 3, _ => b1_eq (show (N % 18446744073709551616) / 16777216 % 256 = N / 16777216 % 256 by omega)
  | 4, _ => b1_eq (show (N % 18446744073709551616) / 4294967296 % 256 = N / 4294967296 % 256 by omega)
  | 5, _ => b1_eq (show (N % 18446744073709551616) / 1099511627776 % 256 = N / 1099511627776 % 256 by omega)
  | 6, _ => b1_eq (show (N % 18446744073709551616) / 281474976710656 % 256 = N / 281474976710656 % 256 by omega)
  | 7, _ => b1_eq (show (N % 18446744073709551616) / 72057594037927936 % 256 = N / 72057594037927936 % 256 by omega)
  | 8, _ => b1_eq (show (N / 18446744073709551616 % 18446744073709551616) % 256 = N / 18446744073709551616 % 256 by omega)
  | 9, _ => b1_eq (show (N / 18446744073709551616 % 18446744073709551616) / 256 % 256 = N / 4722366482869645213696 % 256 by omega)
  | 10, _ => b1_eq (show (N / 18446744073709551616 % 18446744073709551616) / 65536 % 256 = N / 1208925819614629174706176 % 256 by omega)
  | 11, _ => b1_eq (show (N / 18446744073709551616 % 18446744073709551616) / 16777216 % 256 = N / 309485009821345068724781056 % 256 by omega)
  | 12, _ => b1_eq (show (N / 18446744073709551616 % 18446744073709551616) / 4294967296 % 256 = N / 79228162514264337593543950336 % 256 by omega)
  | 13, _ => b1_eq (show (N / 18446744073709551616 % 18446744073709551616) / 1099511627776 % 256 = N / 20282409603651670423947251286016 % 256 by omega)
  | 14, _ => b1_eq (show (N / 18446744073709551616 % 18446744073709551616) / 281474976710656 % 256 = N / 5192296858534827628530496329220096 % 256 by omega)
  | 15, _ => b1_eq (show (N / 18446744073709551616 % 18446744073709551616) / 72057594037927936 % 256 = N / 1329227995784915872903807060280344576 % 256 by omega)
  | 16, _ => b1_eq (show (N / 340282366920938463463374607431768211456 % 18446744073709551616) % 256 = N / 340282366920938463463374607431768211456 % 256 by omega)
  | 17, _ => b1_eq (show (N / 340282366920938463463374607431768211456 % 18446744073709551616) / 256 % 256 = N / 87112285931760246646623899502532662132736 % 256 by omega)
  | 18, _ => b1_eq (show (N / 340282366920938463463374607431768211456 % 18446744073709551616) / 65536 % 256 = N / 22300745198530623141535718272648361505980416 % 256 by omega)
  | 19, _ => b1_eq (show (N / 340282366920938463463374607431768211456 % 18446744073709551616) / 16777216 % 256 = N / 5708990770823839524233143877797980545530986496 % 256 by omega)
  | 20, _ => b1_eq (show (N / 340282366920938463463374607431768211456 % 18446744073709551616) / 4294967296 % 256 = N / 1461501637330902918203684832716283019655932542976 % 256 by omega)
  | 21, _ => b1_eq (show (N / 340282366920938463463374607431768211456 % 18446744073709551616) / 1099511627776 % 256 = N / 374144419156711147060143317175368453031918731001856 % 256 by omega)
  | 22, _ => b1_eq (show (N / 340282366920938463463374607431768211456 % 18446744073709551616) / 281474976710656 % 256 = N / 95780971304118053647396689196894323976171195136475136 % 256 by omega)
  | 23, _ => b1_eq (show (N / 340282366920938463463374607431768211456 % 18446744073709551616) / 72057594037927936 % 256 = N / 24519928653854221733733552434404946937899825954937634816 % 256 by omega)
  | 24, _ => b1_eq (show (N / 6277101735386680763835789423207666416102355444464034512896 % 18446744073709551616) % 256 = N / 6277101735386680763835789423207666416102355444464034512896 % 256 by omega)
  | 25, _ => b1_eq (show (N / 6277101735386680763835789423207666416102355444464034512896 % 18446744073709551616) / 256 % 256 = N / 1606938044258990275541962092341162602522202993782792835301376 % 256 by omega)
  | 26, _ => b1_eq (show (N / 6277101735386680763835789423207666416102355444464034512896 % 18446744073709551616) / 65536 % 256 = N / 411376139330301510538742295639337626245683966408394965837152256 % 256 by omega)
  | 27, _ => b1_eq (show (N / 6277101735386680763835789423207666416102355444464034512896 % 18446744073709551616) / 16777216 % 256 = N / 105312291668557186697918027683670432318895095400549111254310977536 % 256 by omega)
  | 28, _ => b1_eq (show (N / 6277101735386680763835789423207666416102355444464034512896 % 18446744073709551616) / 4294967296 % 256 = N / 26959946667150639794667015087019630673637144422540572481103610249216 % 256 by omega)
  | 29, _ => b1_eq (show (N / 6277101735386680763835789423207666416102355444464034512896 % 18446744073709551616) / 1099511627776 % 256 = N / 6901746346790563787434755862277025452451108972170386555162524223799296 % 256 by omega)
  | 30, _ => b1_eq (show (N / 6277101735386680763835789423207666416102355444464034512896 % 18446744073709551616) / 281474976710656 % 256 = N / 1766847064778384329583297500742918515827483896875618958121606201292619776 % 256 by omega)
  | 31, _ => b1_eq (show (N / 6277101735386680763835789423207666416102355444464034512896 % 18446744073709551616) / 72057594037927936 % 256 = N / 452312848583266388373324160190187140051835877600158453279131187530910662656 % 256 by omega)
  | _ + 32, h => absurd h (by omega)
end Go.Proofs.Ytmpjigghgedjbaa
namespace Go.Proofs.Ytmpjigghgedjbaa
open Go Go.RowKit Go.V Go.N Go.E
def nm (I : Nat → Nat) (g : Nat) (a b : Nat × Pt) : Nat := match g with
  | 1 => fmul a.1 b.1
  | 2 => fadd a.1 b.1
  | 3 => fsub a.1 b.1
  | 4 => (p25519 - a.1 % p25519) % p25519
  | 5 => I a.1
  | 6 => (a.1 + b.1) % 7237005577332262213973186563042994240857116359379907606001950938285454250989
  | 7 => a.1 * b.1 % 7237005577332262213973186563042994240857116359379907606001950938285454250989
  | 8 => a.1 % 7237005577332262213973186563042994240857116359379907606001950938285454250989
  | 10 => a.2.1
  | 11 => a.2.2
  | _ => 0
def pn (g : Nat) (a b : Nat × Pt) : Pt := match g with
  | 20 => addP a.2 b.2
  | 21 => negP a.2
  | 22 => mulP a.1 b.2
  | _ => zeroP
def dens (I : Nat → Nat) (σ : Nat → Nat × Pt) : Ex → Nat × Pt
  | .v i => σ i
  | .c s => (s, if s = 0 then zeroP else baseP)
  | .f g a b => (nm I g (dens I σ a) (dens I σ b), pn g (dens I σ a) (dens I σ b))
structure Know where
  I : Nat → Nat
  I_ok : ∀ a, I a = pw a 57896044618658097711785492504343953926634992332820282019728792003956564819947
  σ : Nat → Nat × Pt
  cmp : Ex → Ex → Option Bool
  cmp_ok : ∀ a b r, cmp a b = some r → r = Nat.beq (dens I σ a).1 (dens I σ b).1
@[reducible] def Know.gl (K : Know) : Gl := ⟨glTab, fun e => (dens K.I K.σ e).1, fun _ => rfl, K.cmp, K.cmp_ok⟩
theorem inv_ex : ∃ I : Nat → Nat, ∀ a, I a = pw a 57896044618658097711785492504343953926634992332820282019728792003956564819947 := ⟨fun a => pw a 57896044618658097711785492504343953926634992332820282019728792003956564819947, fun _ => rfl⟩
@[reducible] def know {I : Nat → Nat} (h : ∀ a, I a = pw a 57896044618658097711785492504343953926634992332820282019728792003956564819947) (σ : Nat → Nat × Pt) : Know := ⟨I, h, σ, fun _ _ => none, (fun _ _ _ h => by cases h)⟩
noncomputable def trOf : List (Nat × Con) → Tr Con
  | [] => .lf
  | (f, c) :: l => Tr.put .lf 64 (trOf l) f (some c) fun t => t
theorem trOf_get : ∀ {l : List (Nat × Con)} {f : Nat} {c : Con}, (trOf l).get f = some c → (f, c) ∈ l
  | [], f, c, h => by cases h
  | (g, d) :: l, f, c, h => by
    unfold trOf at h
    rcases Tr.get_put (bad := (.lf : Tr Con)) 64 (trOf l) g (some d) (fun t => t) with e | ⟨t', h1, e⟩
    · rw [e] at h; cases h
    · rw [e, h1] at h
      split at h
      · rename_i hf; cases h; subst hf; simp
      · exact List.mem_cons_of_mem _ (trOf_get h)
noncomputable def ctxL (l : List (Nat × Con)) : Ctx := ⟨tyT, fnT, trOf l, wmT⟩
theorem ctxL_ok [Gl] {l : List (Nat × Con)} (h : ∀ (i : LoopTab) f c, (f, c) ∈ l → @ConOk i _ Try.prog f c) : CtxOk Try.prog (ctxL l) := ⟨tyT_ok, fnT_ok, fun i f c hc => h i f c (trOf_get hc)⟩
theorem byteN_at (N i : Nat) : byteN N i = byteAt N i := rfl
theorem numL_b (N : Nat) : numL N = bcells 32 N := by
  letI : Gl := glI
  apply List.ext_getElem?
  intro i
  rcases Nat.lt_or_ge i 32 with h | h
  · rw [numL_at h, bcells_get h]; rfl
  · rw [List.getElem?_eq_none (by rw [numL_l32]; exact h), List.getElem?_eq_none (by rw [length_bcells]; exact h)]
theorem big_pow : (115792089237316195423570985008687907853269984665640564039457584007913129639936 : Nat) = 256 ^ 32 := by decide
section
variable (K : Know)
theorem num_nm {v : V} {x : Ex} (h : exN 32 v = some x) {ρ : Plc} {y : Value} (hv : @VR K.gl ρ v y) : y = num (dens K.I K.σ x).1 ∧ (dens K.I K.σ x).1 < 115792089237316195423570985008687907853269984665640564039457584007913129639936 := by
  letI := K.gl
  obtain ⟨h1, h2⟩ := exN_ok h hv
  refine ⟨?_, by rw [big_pow]; exact h2⟩
  rw [h1, ← numL_b]
  rfl
abbrev nmV (x : Ex) : V := .agg (.op 32 x)
theorem num_vr {x : Ex} {N : Nat} (h : (dens K.I K.σ x).1 = N) (hN : N < 115792089237316195423570985008687907853269984665640564039457584007913129639936) (ρ : Plc) : @VR K.gl ρ (nmV x) (num N) := by
  letI := K.gl
  subst h
  have := RR.ops (ρ := ρ) 32 x (show (dens K.I K.σ x).1 < 256 ^ 32 by rw [← big_pow]; exact hN)
  show VR ρ (.agg (.op 32 x)) (.agg (numL (dens K.I K.σ x).1).toArray)
  rw [numL_b]
  exact .agg _ _ this
def g2 (c : Nat) : List V → Option V
  | [u, v] => match exN 32 u, exN 32 v with
    | some x, some y => some (nmV (.f c x y))
    | _, _ => none
  | _ => none
def g1 (c : Nat) : List V → Option V
  | [u] => match exN 32 u with
    | some x => some (nmV (.f c x (.c 0)))
    | none => none
  | _ => none
theorem g2_ok {f : Nat} {c : Nat} {F : Nat → Nat → Nat} (hF : ∀ a b, nm K.I c a b = F a.1 b.1) (hb : ∀ a b, F a b < 115792089237316195423570985008687907853269984665640564039457584007913129639936)
    (h : ∀ N M, N < 115792089237316195423570985008687907853269984665640564039457584007913129639936 → M < 115792089237316195423570985008687907853269984665640564039457584007913129639936 → ∀ w, Calls Try.prog f #[num N, num M] w (Ret fun v w' => v = num (F N M) ∧ Grow w w')) : @GOk K.gl Try.prog f (g2 c) := by
  letI := K.gl
  intro vs v hv ρ xs w hvs
  unfold g2 at hv
  split at hv
  · rename_i u1 u2
    split at hv
    · rename_i x y hx hy
      cases hv
      obtain ⟨a, b, rfl, ha, hbb⟩ := hvs.two
      obtain ⟨rfl, l1⟩ := num_nm K hx ha
      obtain ⟨rfl, l2⟩ := num_nm K hy hbb
      exact (h _ _ l1 l2 w).mono fun en w' ⟨v, e1, e2, e3⟩ => ⟨v, e1, by rw [e2]; exact num_vr K (x := .f c x y) (show (dens K.I K.σ (.f c x y)).1 = _ from hF (dens K.I K.σ x) (dens K.I K.σ y)) (hb _ _) ρ, e3⟩
    · cases hv
  · cases hv
theorem g1_ok {f : Nat} {c : Nat} {F : Nat → Nat} (hF : ∀ a b, nm K.I c a b = F a.1) (hb : ∀ a, F a < 115792089237316195423570985008687907853269984665640564039457584007913129639936)
    (h : ∀ N, N < 115792089237316195423570985008687907853269984665640564039457584007913129639936 → ∀ w, Calls Try.prog f #[num N] w (Ret fun v w' => v = num (F N) ∧ Grow w w')) : @GOk K.gl Try.prog f (g1 c) := by
  letI := K.gl
  intro vs v hv ρ xs w hvs
  unfold g1 at hv
  split at hv
  · rename_i u1
    split at hv
    · rename_i x hx
      cases hv
      obtain ⟨a, rfl, ha⟩ := hvs.one
      obtain ⟨rfl, l1⟩ := num_nm K hx ha
      exact (h _ l1 w).mono fun en w' ⟨v, e1, e2, e3⟩ => ⟨v, e1, by rw [e2]; exact num_vr K (x := .f c x (.c 0)) (show (dens K.I K.σ (.f c x (.c 0))).1 = _ from hF (dens K.I K.σ x) _) (hb _) ρ, e3⟩
    · cases hv
  · cases hv
def gOf : List V → Option V
  | [.at (.int .u64 n)] => some (.agg (.by 32 n))
  | _ => none
theorem gOf_ok : @GOk K.gl Try.prog 18 gOf := by
  letI := K.gl
  intro vs v hv ρ xs w hvs
  unfold gOf at hv
  split at hv
  · rename_i n
    cases hv
    obtain ⟨a, rfl, ha⟩ := hvs.one
    have ha := ha.atom
    cases ha with
    | int _ _ hn =>
      have hn : n < 18446744073709551616 := hn
      rw [show IntKind.u64.wrap (n : Int) = (n : Int) from wrap_lo (k := .u64) hn]
      refine (of_c n hn w).mono fun en w' ⟨v, e1, e2, e3⟩ => ⟨v, e1, ?_, e3⟩
      rw [e2, show num n = .agg (bcells 32 n).toArray by rw [← numL_b]]
      exact .agg _ _ (.bys 32 n (Nat.lt_trans hn (by decide)))
  · cases hv
theorem gMul_ok : @GOk K.gl Try.prog 21 (g2 1) := g2_ok K (F := fmul) (fun _ _ => rfl) fmul_big mul_f
theorem gAdd_ok : @GOk K.gl Try.prog 30 (g2 2) := g2_ok K (F := fadd) (fun _ _ => rfl) fadd_big add_f
theorem gSub_ok : @GOk K.gl Try.prog 32 (g2 3) := g2_ok K (F := fsub) (fun _ _ => rfl) fsub_big sub_f
theorem gNeg_ok : @GOk K.gl Try.prog 19 (g1 4) := g1_ok K (F := fun N => (p25519 - N % p25519) % p25519) (fun _ _ => rfl) (fun _ => mod_big _) neg_c
theorem gInv_ok : @GOk K.gl Try.prog 16 (g1 5) := g1_ok K (F := K.I) (fun _ _ => rfl) (fun a => by rw [K.I_ok]; exact pw_big _ _) (fun N hN w => by rw [K.I_ok]; exact inv_c N hN w)
noncomputable def fieldCon : List (Nat × Con) :=
  [(21, conOf (g2 1)), (30, conOf (g2 2)), (32, conOf (g2 3)), (19, conOf (g1 4)), (16, conOf (g1 5)), (18, conOf gOf)]
theorem fieldCon_ok (i : LoopTab) (f : Nat) (c : Con) (h : (f, c) ∈ fieldCon) : @ConOk i K.gl Try.prog f c := by
  letI := K.gl
  letI := i
  simp only [fieldCon, List.mem_cons, Prod.mk.injEq, List.mem_nil_iff, or_false] at h
  rcases h with ⟨rfl, rfl⟩ | ⟨rfl, rfl⟩ | ⟨rfl, rfl⟩ | ⟨rfl, rfl⟩ | ⟨rfl, rfl⟩ | ⟨rfl, rfl⟩
  · exact conOf_ok fn21 (gMul_ok K)
  · exact conOf_ok fn30 (gAdd_ok K)
  · exact conOf_ok fn32 (gSub_ok K)
  · exact conOf_ok fn19 (gNeg_ok K)
  · exact conOf_ok fn16 (gInv_ok K)
  · exact conOf_ok fn18 (gOf_ok K)
end
end Go.Proofs.Ytmpjigghgedjbaa
namespace Go.Proofs.Ytmpjigghgedjbaa
open Go Go.RowKit Go.V Go.N Go.E
def sameRp : Rope → Rope → Bool
  | .by n s, .by m t => two (Nat.beq n m) (Nat.beq s t)
  | .op n x, .op m y => two (Nat.beq n m) (x.eq y)
  | .nd n l r, .nd m l' r' => two (Nat.beq n m) (two (sameRp l l') (sameRp r r'))
  | _, _ => false
theorem sameRp_eq : ∀ {x y : Rope}, sameRp x y = true → x = y
  | .by n s, .by m t, h => by
    obtain ⟨h1, h2⟩ := two_tt (show two (Nat.beq n m) (Nat.beq s t) = true from h)
    rw [Nat.eq_of_beq_eq_true h1, Nat.eq_of_beq_eq_true h2]
  | .op n x, .op m y, h => by
    obtain ⟨h1, h2⟩ := two_tt (show two (Nat.beq n m) (x.eq y) = true from h)
    rw [Nat.eq_of_beq_eq_true h1, Ex.eq_eq h2]
  | .nd n l r, .nd m l' r', h => by
    obtain ⟨h1, h2⟩ := two_tt (show two (Nat.beq n m) (two (sameRp l l') (sameRp r r')) = true from h)
    obtain ⟨h2, h3⟩ := two_tt h2
    rw [Nat.eq_of_beq_eq_true h1, sameRp_eq h2, sameRp_eq h3]
  | .by _ _, .rp _ _, h => by cases h
  | .by _ _, .nd _ _ _, h => by cases h
  | .by _ _, .op _ _, h => by cases h
  | .rp _ _, .by _ _, h => by cases h
  | .rp _ _, .rp _ _, h => by cases h
  | .rp _ _, .nd _ _ _, h => by cases h
  | .rp _ _, .op _ _, h => by cases h
  | .nd _ _ _, .by _ _, h => by cases h
  | .nd _ _ _, .rp _ _, h => by cases h
  | .nd _ _ _, .op _ _, h => by cases h
  | .op _ _, .by _ _, h => by cases h
  | .op _ _, .rp _ _, h => by cases h
  | .op _ _, .nd _ _ _, h => by cases h
def sameVv : V → V → Bool
  | .agg r, .agg s => sameRp r s
  | .at (.bool a), .at (.bool b) => bif a then b else not b
  | .at (.int .i64 a), .at (.int .i64 b) => Nat.beq a b
  | .tup [.agg r, .at (.bool a)], .tup [.agg s, .at (.bool b)] => two (sameRp r s) (bif a then b else not b)
  | .tup [.agg r, .at (.int .i64 a)], .tup [.agg s, .at (.int .i64 b)] => two (sameRp r s) (Nat.beq a b)
  | _, _ => false
theorem bb_eq {a b : Bool} (h : (bif a then b else not b) = true) : a = b := by cases a <;> cases b <;> first | rfl | cases h
theorem sameVv_eq {x y : V} (h : sameVv x y = true) : x = y := by
  unfold sameVv at h
  split at h
  · rw [sameRp_eq h]
  · rw [bb_eq h]
  · rw [Nat.eq_of_beq_eq_true h]
  · obtain ⟨h1, h2⟩ := two_tt h; rw [sameRp_eq h1, bb_eq h2]
  · obtain ⟨h1, h2⟩ := two_tt h; rw [sameRp_eq h1, Nat.eq_of_beq_eq_true h2]
  · cases h
abbrev ptV (x y : Ex) : V := .agg (.nd 32 (.op 32 x) (.op 32 y))
def exP : V → Option (Ex × Ex)
  | .agg (.nd n l r) => bif Nat.beq n 32 then (match exN 32 (.agg l), exN 32 (.agg r) with | some x, some y => some (x, y) | _, _ => none) else none
  | .agg (.by n s) => bif Nat.beq n 64 then some (.c (Nat.mod s 115792089237316195423570985008687907853269984665640564039457584007913129639936), .c (Nat.div s 115792089237316195423570985008687907853269984665640564039457584007913129639936)) else none
  | _ => none
section
variable (K : Know)
abbrev dn (x : Ex) : Nat := (dens K.I K.σ x).1
theorem pt_vr {x y : Ex} (hx : dn K x < 115792089237316195423570985008687907853269984665640564039457584007913129639936) (hy : dn K y < 115792089237316195423570985008687907853269984665640564039457584007913129639936) (ρ : Plc) : @VR K.gl ρ (ptV x y) (pt (dn K x, dn K y)) := by
  letI := K.gl
  have h1 := RR.ops (ρ := ρ) 32 x (show (dens K.I K.σ x).1 < 256 ^ 32 by rw [← big_pow]; exact hx)
  have h2 := RR.ops (ρ := ρ) 32 y (show (dens K.I K.σ y).1 < 256 ^ 32 by rw [← big_pow]; exact hy)
  have := RR.nds (ρ := ρ) 32 _ _ _ _ h1 h2 (length_bcells _ _)
  show VR ρ _ (.agg (numL _ ++ numL _).toArray)
  rw [numL_b, numL_b]
  exact .agg _ _ this
theorem exP_ok {v : V} {x y : Ex} (h : exP v = some (x, y)) {ρ : Plc} {z : Value} (hv : @VR K.gl ρ v z) : z = pt (dn K x, dn K y) ∧ dn K x < 115792089237316195423570985008687907853269984665640564039457584007913129639936 ∧ dn K y < 115792089237316195423570985008687907853269984665640564039457584007913129639936 := by
  letI := K.gl
  unfold exP at h
  split at h
  · rename_i n l r
    cases hb : Nat.beq n 32 with
    | false => rw [hb] at h; cases h
    | true =>
      rw [hb, cond_true] at h
      cases Nat.eq_of_beq_eq_true hb
      split at h
      · rename_i x' y' hx hy
        cases h
        cases hv with
        | agg _ cs hr =>
          cases hr with
          | nds _ _ _ xs ys h1 h2 hn =>
            obtain ⟨e1, l1⟩ := num_nm K hx (VR.agg _ _ h1)
            obtain ⟨e2, l2⟩ := num_nm K hy (VR.agg _ _ h2)
            have e1 : xs = numL (dn K x) := by injection e1 with e; exact congrArg Array.toList e
            have e2 : ys = numL (dn K y) := by injection e2 with e; exact congrArg Array.toList e
            subst e1 e2
            exact ⟨rfl, l1, l2⟩
      · cases h
  · rename_i n s
    cases hb : Nat.beq n 64 with
    | false => rw [hb] at h; cases h
    | true =>
      rw [hb, cond_true] at h
      cases Nat.eq_of_beq_eq_true hb
      cases h
      cases hv with
      | agg _ cs hr =>
        cases hr with
        | bys _ _ hs =>
          have hs : s < 115792089237316195423570985008687907853269984665640564039457584007913129639936 * 115792089237316195423570985008687907853269984665640564039457584007913129639936 := Nat.lt_of_lt_of_le hs (by decide)
          have hm : s % 115792089237316195423570985008687907853269984665640564039457584007913129639936 < 115792089237316195423570985008687907853269984665640564039457584007913129639936 := Nat.mod_lt _ (by decide)
          refine ⟨?_, hm, Nat.div_lt_of_lt_mul hs⟩
          show Value.agg (bcells 64 s).toArray = .agg (numL _ ++ numL _).toArray
          rw [numL_b, numL_b]
          show _ = Value.agg (bcells 32 (s % 115792089237316195423570985008687907853269984665640564039457584007913129639936) ++ bcells 32 (s / 115792089237316195423570985008687907853269984665640564039457584007913129639936)).toArray
          rw [← bcells_app (n := 32) (m := 32) (by rw [← big_pow]; exact hm), ← big_pow]
          congr 3
          rw [Nat.mul_comm]
          exact (Nat.mod_add_div _ _).symm
  · cases h
def inP (tab : List (Ex × Ex)) (x y : Ex) : Bool := tab.any fun p => bif p.1.eq x then p.2.eq y else false
theorem inP_ok {tab : List (Ex × Ex)} {x y : Ex} (h : inP tab x y = true) : (x, y) ∈ tab := by
  obtain ⟨p, hp, h⟩ := List.any_eq_true.1 h
  cases h1 : p.1.eq x with
  | false => rw [h1] at h; cases h
  | true =>
    rw [h1, cond_true] at h
    rw [← Ex.eq_eq h1, ← Ex.eq_eq h]
    exact hp
theorem i64_vr [Gl] (n : Nat) (h : n < 9223372036854775808) (ρ : Plc) : VR ρ (.at (.int .i64 n)) (.int .i64 (n : Int)) := by
  have := AR.int (ρ := ρ) .i64 n (Nat.lt_trans h (by decide))
  rw [show IntKind.i64.wrap (n : Int) = (n : Int) from wrap_lo (k := .i64) h] at this
  exact .at _ _ this
theorem run_calls {l : List (Nat × Con)} (hl : ∀ (i : LoopTab) f c, (f, c) ∈ l → @ConOk i K.gl Try.prog f c) {d f : Nat} {fi : FI} (hfi : fnT.get f = some fi) (hnc : ((trOf l).get f).isNone = true) {vs : List V} {xs : List Value} {exp : V}
    (hvs : ∀ ρ, @VRs K.gl ρ vs xs) (H : (letI := K.gl; callN false (ctxL l) true d 0 0 (.fn f) vs .lf 0 (fun v _ _ => sameVv v exp)) = true) (w : World) :
    Calls Try.prog f xs.toArray w (Ret fun x w' => (∃ ρ, @VR K.gl ρ exp x) ∧ Grow w w') := by
  letI := K.gl
  exact (top_gen (by kernel_rfl) (ctxL_ok hl) hfi hnc vs xs d (fun v => sameVv v exp) .lf 0 _ w (@Rel.none _ (fun _ => rfl) (tabOf (ctxL l)) w) (hvs _) H).mono fun en w' ⟨x, e1, ⟨ρ', v, _, e2, e3⟩, e4⟩ => ⟨x, e1, ⟨ρ', sameVv_eq e2 ▸ e3⟩, e4⟩
theorem vr_pt {x y : Ex} {z : Value} {ρ : Plc} (h : @VR K.gl ρ (ptV x y) z) : z = pt (dn K x, dn K y) := (exP_ok K (x := x) (y := y) (by rfl) h).1
end
end Go.Proofs.Ytmpjigghgedjbaa
namespace Go.Proofs.Ytmpjigghgedjbaa
open Go Go.RowKit Go.V Go.N Go.E
set_option maxRecDepth 1000000
def cmpL : List (Ex × Ex × Bool) → Ex → Ex → Option Bool
  | [], _, _ => none
  | (a, b, r) :: l, x, y => bif a.eq x then (bif b.eq y then some r else cmpL l x y) else cmpL l x y
theorem cmpL_ok {D : Ex → Nat} : ∀ {l : List (Ex × Ex × Bool)}, (∀ p ∈ l, p.2.2 = Nat.beq (D p.1) (D p.2.1)) → ∀ a b r, cmpL l a b = some r → r = Nat.beq (D a) (D b)
  | [], _, a, b, r, h => by cases h
  | (x, y, q) :: l, hl, a, b, r, h => by
    have ih := cmpL_ok (D := D) (l := l) fun p hp => hl p (by simp [hp])
    unfold cmpL at h
    cases h1 : x.eq a with
    | false => rw [h1] at h; exact ih a b r h
    | true =>
      rw [h1, cond_true] at h
      cases h2 : y.eq b with
      | false => rw [h2] at h; exact ih a b r h
      | true =>
        rw [h2] at h
        cases h
        rw [← Ex.eq_eq h1, ← Ex.eq_eq h2]
        exact hl (x, y, q) (by simp)
@[reducible] def knowC {I : Nat → Nat} (h : ∀ a, I a = pw a 57896044618658097711785492504343953926634992332820282019728792003956564819947) (σ : Nat → Nat × Pt) (l : List (Ex × Ex × Bool)) (hl : ∀ p ∈ l, p.2.2 = Nat.beq (dens I σ p.1).1 (dens I σ p.2.1).1) : Know := ⟨I, h, σ, cmpL l, cmpL_ok (D := fun e => (dens I σ e).1) hl⟩
abbrev xv (i : Nat) : Ex := .f 10 (.v i) (.c 0)
abbrev yv (i : Nat) : Ex := .f 11 (.v i) (.c 0)
structure Wd where
  x : Ex
  y : Ex
  z : Ex
  t : Ex
def gCan (tab : List (Ex × Bool)) : List V → Option V
  | [u] => match exN 32 u with
    | some x => match tab.find? fun p => p.1.eq x with
      | some p => some (.at (.bool p.2))
      | none => none
    | none => none
  | _ => none
theorem gCan_ok (K : Know) {tab : List (Ex × Bool)} (ht : ∀ p ∈ tab, p.2 = decide (dn K p.1 < p25519)) : @GOk K.gl Try.prog 24 (gCan tab) := by
  letI := K.gl
  intro vs v hv ρ xs w hvs
  unfold gCan at hv
  split at hv
  · split at hv
    · rename_i x hx
      split at hv
      · rename_i p hp
        cases hv
        obtain ⟨a, rfl, ha⟩ := hvs.one
        obtain ⟨rfl, hl⟩ := num_nm K hx ha
        have h1 : p.1.eq x = true := by simpa using List.find?_some hp
        have h2 := ht p (List.mem_of_find?_eq_some hp)
        rw [Ex.eq_eq h1] at h2
        have hr : Calls Try.prog 24 #[num (dn K x)] w (Ret fun v w' => v = .bool p.2 ∧ Grow w w') := by
          by_cases hc : dn K x < p25519
          · rw [h2, decide_eq_true hc]; exact canon_y _ hc w
          · rw [h2, decide_eq_false hc]; exact canon_n _ hl hc w
        exact hr.mono fun en w' ⟨v, e1, e2, e3⟩ => ⟨v, e1, by rw [e2]; exact .at _ _ (.bool _), e3⟩
      · cases hv
    · cases hv
  · cases hv
noncomputable def conC (tab : List (Ex × Bool)) : List (Nat × Con) := (24, conOf (gCan tab)) :: fieldCon
theorem conC_ok (K : Know) {tab : List (Ex × Bool)} (ht : ∀ p ∈ tab, p.2 = decide (dn K p.1 < p25519)) (i : LoopTab) (f : Nat) (c : Con) (h : (f, c) ∈ conC tab) : @ConOk i K.gl Try.prog f c := by
  rcases List.mem_cons.1 h with h | h
  · cases h
    letI := K.gl
    letI := i
    exact conOf_ok (fi := fiOf Try.f24) fn24 (gCan_ok K ht)
  · exact fieldCon_ok K i f c h
def one1 (P : Pt) : Nat → Nat × Pt := fun _ => (0, P)
def lhsE : Ex := .f 3 (.f 1 (yv 0) (yv 0)) (.f 1 (xv 0) (xv 0))
def rhsE : Ex := .f 2 (.c 1) (.f 1 (.c 37095705934669439343138083508754565189542113879843219016388785533085940283555) (.f 1 (.f 1 (xv 0) (xv 0)) (.f 1 (yv 0) (yv 0))))
theorem check_run {I : Nat → Nat} (hI : ∀ a, I a = pw a 57896044618658097711785492504343953926634992332820282019728792003956564819947) (P : Pt) (c1 c2 c3 : Bool) (hl) : (letI := (knowC hI (one1 P) [(lhsE, rhsE, c3)] hl).gl; callN false (ctxL (conC [(xv 0, c1), (yv 0, c2)])) true 20 0 0 (.fn 43) [ptV (xv 0) (yv 0)] .lf 0 (fun v _ _ => sameVv v (.at (.int .i64 (bif c1 && c2 && c3 then 0 else 2))))) = true := by
  cases c1 <;> cases c2 <;> cases c3 <;> kernel_rfl
theorem i64_bif [Gl] {b : Bool} {ρ : Plc} {x : Value} (h : VR ρ (.at (.int .i64 (bif b then 0 else 2))) x) : x = .int .i64 ((bif b then 0 else 2 : Nat) : Int) := by
  have h := h.atom
  cases b
  · cases h with
    | int _ _ _ => rfl
  · cases h with
    | int _ _ _ => rfl
theorem check_b (P : Pt) (b1 : P.1 < 115792089237316195423570985008687907853269984665640564039457584007913129639936) (b2 : P.2 < 115792089237316195423570985008687907853269984665640564039457584007913129639936) (w : World) : Calls Try.prog 43 #[pt P] w (Ret fun v w' => v = .int .i64 ((bif decide (P.1 < p25519) && decide (P.2 < p25519) && decide (fsub (fmul P.2 P.2) (fmul P.1 P.1) = fadd 1 (fmul dN (fmul (fmul P.1 P.1) (fmul P.2 P.2)))) then 0 else 2 : Nat) : Int) ∧ Grow w w') := by
  obtain ⟨I, hI⟩ := inv_ex
  have hl : ∀ p ∈ [(lhsE, rhsE, decide (fsub (fmul P.2 P.2) (fmul P.1 P.1) = fadd 1 (fmul dN (fmul (fmul P.1 P.1) (fmul P.2 P.2)))))], p.2.2 = Nat.beq (dens I (one1 P) p.1).1 (dens I (one1 P) p.2.1).1 := by
    intro p hp
    rw [List.mem_singleton] at hp
    subst hp
    show decide _ = Nat.beq (fsub (fmul P.2 P.2) (fmul P.1 P.1)) (fadd 1 (fmul dN (fmul (fmul P.1 P.1) (fmul P.2 P.2))))
    generalize fsub (fmul P.2 P.2) (fmul P.1 P.1) = a
    generalize fadd 1 (fmul dN (fmul (fmul P.1 P.1) (fmul P.2 P.2))) = b
    cases hb : Nat.beq a b with
    | true => exact decide_eq_true (Nat.eq_of_beq_eq_true hb)
    | false => exact decide_eq_false (Nat.ne_of_beq_eq_false hb)
  have := run_calls (knowC hI (one1 P) _ hl) (conC_ok (knowC hI (one1 P) _ hl) (tab := [(xv 0, decide (P.1 < p25519)), (yv 0, decide (P.2 < p25519))]) (by
      intro p hp
      simp only [List.mem_cons, List.mem_nil_iff, or_false] at hp
      rcases hp with rfl | rfl <;> rfl)) (fi := fiOf Try.f43) (by kernel_rfl) (by kernel_rfl) (xs := [pt P])
    (fun ρ => by letI := (knowC hI (one1 P) _ hl).gl; exact .cons _ _ _ _ (pt_vr (knowC hI (one1 P) _ hl) (x := xv 0) (y := yv 0) b1 b2 ρ) .nil) (check_run hI P _ _ _ hl) w
  refine this.mono fun en w' ⟨x, e1, ⟨ρ, e2⟩, e3⟩ => ⟨x, e1, ?_, e3⟩
  exact @i64_bif (knowC hI (one1 P) _ hl).gl _ _ _ e2
theorem check_y' (P : Pt) (hP : Val P) (w : World) : Calls Try.prog 43 #[pt P] w (Ret fun v w' => v = .int .i64 0 ∧ Grow w w') := by
  have := check_b P (Nat.lt_trans hP.1 (by decide)) (Nat.lt_trans hP.2.1 (by decide)) w
  rw [decide_eq_true hP.1, decide_eq_true hP.2.1, decide_eq_true ((on_dec P.1 P.2).2 hP.2.2)] at this
  exact this
theorem check_n' (P : Pt) (b1 : P.1 < 115792089237316195423570985008687907853269984665640564039457584007913129639936) (b2 : P.2 < 115792089237316195423570985008687907853269984665640564039457584007913129639936) (hP : ¬ Val P) (w : World) : Calls Try.prog 43 #[pt P] w (Ret fun v w' => v = .int .i64 2 ∧ Grow w w') := by
  have := check_b P b1 b2 w
  rw [show (decide (P.1 < p25519) && decide (P.2 < p25519) && decide (fsub (fmul P.2 P.2) (fmul P.1 P.1) = fadd 1 (fmul dN (fmul (fmul P.1 P.1) (fmul P.2 P.2))))) = false from by
    rw [Bool.eq_false_iff]
    intro h
    rw [Bool.and_eq_true, Bool.and_eq_true, decide_eq_true_eq, decide_eq_true_eq, decide_eq_true_eq] at h
    exact hP ⟨h.1.1, h.1.2, (on_dec P.1 P.2).1 h.2⟩] at this
  exact this
section
variable (K : Know)
def gChk (tab : List (Ex × Ex)) : List V → Option V
  | [u] => match exP u with
    | some (x, y) => bif inP tab x y then some (.at (.int .i64 0)) else none
    | none => none
  | _ => none
theorem gChk_ok {tab : List (Ex × Ex)} (ht : ∀ p ∈ tab, Val (dn K p.1, dn K p.2)) : @GOk K.gl Try.prog 43 (gChk tab) := by
  letI := K.gl
  intro vs v hv ρ xs w hvs
  unfold gChk at hv
  split at hv
  · split at hv
    · rename_i x y hx
      cases hi : inP tab x y with
      | false => rw [hi] at hv; cases hv
      | true =>
        rw [hi] at hv
        cases hv
        obtain ⟨a, rfl, ha⟩ := hvs.one
        obtain ⟨rfl, _, _⟩ := exP_ok K hx ha
        exact (check_y' _ (ht _ (inP_ok hi)) w).mono fun en w' ⟨v, e1, e2, e3⟩ => ⟨v, e1, by rw [e2]; exact i64_vr 0 (by decide) ρ, e3⟩
    · cases hv
  · cases hv
end
noncomputable def conA (tab : List (Ex × Ex)) : List (Nat × Con) := (43, conOf (gChk tab)) :: fieldCon
theorem conA_ok (K : Know) {tab : List (Ex × Ex)} (ht : ∀ p ∈ tab, Val (dn K p.1, dn K p.2)) (i : LoopTab) (f : Nat) (c : Con) (h : (f, c) ∈ conA tab) : @ConOk i K.gl Try.prog f c := by
  rcases List.mem_cons.1 h with h | h
  · cases h
    letI := K.gl
    letI := i
    exact conOf_ok (fi := fiOf Try.f43) fn43 (gChk_ok K ht)
  · exact fieldCon_ok K i f c h
theorem neg_run {I : Nat → Nat} (hI : ∀ a, I a = pw a 57896044618658097711785492504343953926634992332820282019728792003956564819947) (P : Pt) : (letI := (know hI (one1 P)).gl; callN false (ctxL (conA [(xv 0, yv 0)])) true 20 0 0 (.fn 44) [ptV (xv 0) (yv 0)] .lf 0 (fun v _ _ => sameVv v (ptV (.f 4 (xv 0) (.c 0)) (yv 0)))) = true := by kernel_rfl
theorem neg_y' (P : Pt) (hP : Val P) (w : World) : Calls Try.prog 44 #[pt P] w (Ret fun v w' => v = pt (negP P) ∧ Grow w w') := by
  obtain ⟨I, hI⟩ := inv_ex
  have := run_calls (know hI (one1 P)) (conA_ok (know hI (one1 P)) (tab := [(xv 0, yv 0)]) (by
      intro p hp
      rw [List.mem_singleton] at hp
      subst hp
      exact hP)) (fi := fiOf Try.f44) (by kernel_rfl) (by kernel_rfl) (xs := [pt P])
    (fun ρ => by letI := (know hI (one1 P)).gl; exact .cons _ _ _ _ (pt_vr (know hI (one1 P)) (x := xv 0) (y := yv 0) (Nat.lt_trans hP.1 (by decide)) (Nat.lt_trans hP.2.1 (by decide)) ρ) .nil) (neg_run hI P) w
  refine this.mono fun en w' ⟨x, e1, ⟨ρ, e2⟩, e3⟩ => ⟨x, e1, ?_, e3⟩
  rw [vr_pt (know hI (one1 P)) e2]
  have := neg_num P
  show pt ((p25519 - P.1 % p25519) % p25519, P.2) = pt (negP P)
  rw [neg_num]
  rfl
end Go.Proofs.Ytmpjigghgedjbaa
namespace Go.Proofs.Ytmpjigghgedjbaa
open Go Go.RowKit Go.V Go.N Go.E
set_option maxRecDepth 1000000
def Wd.fin (e f g h : Ex) : Wd := ⟨.f 1 e f, .f 1 g h, .f 1 f g, .f 1 e h⟩
def Wd.add (w p : Wd) (tw : Ex) : Wd :=
  let a : Ex := .f 1 (.f 3 w.y w.x) (.f 3 p.y p.x)
  let b : Ex := .f 1 (.f 2 w.y w.x) (.f 2 p.y p.x)
  let c : Ex := .f 1 (.f 1 w.t tw) p.t
  let d : Ex := .f 2 (.f 1 w.z p.z) (.f 1 w.z p.z)
  Wd.fin (.f 3 b a) (.f 3 d c) (.f 2 d c) (.f 2 b a)
def Wd.dbl (w : Wd) : Wd :=
  let a : Ex := .f 1 w.x w.x
  let b : Ex := .f 1 w.y w.y
  let c : Ex := .f 1 w.z w.z
  let s : Ex := .f 2 w.x w.y
  let h : Ex := .f 2 a b
  let e : Ex := .f 3 h (.f 1 s s)
  let g : Ex := .f 3 a b
  Wd.fin e (.f 2 (.f 2 c c) g) g h
def Wd.of (x y : Ex) : Wd := ⟨x, y, .c 1, .f 1 x y⟩
def Wd.px (w : Wd) : Ex := .f 1 w.x (.f 5 w.z (.c 0))
def Wd.py (w : Wd) : Ex := .f 1 w.y (.f 5 w.z (.c 0))
def twE : Ex := .f 2 (.c 37095705934669439343138083508754565189542113879843219016388785533085940283555) (.c 37095705934669439343138083508754565189542113879843219016388785533085940283555)
theorem fin_mul (a b : Nat) : fmul a b < 115792089237316195423570985008687907853269984665640564039457584007913129639936 := fmul_big a b
def two2 (P R : Pt) : Nat → Nat × Pt := fun i => bif Nat.beq i 0 then (0, P) else (0, R)
section
variable (K : Know)
theorem dn1 (a b : Ex) : dn K (.f 1 a b) = fmul (dn K a) (dn K b) := rfl
theorem dn2 (a b : Ex) : dn K (.f 2 a b) = fadd (dn K a) (dn K b) := rfl
theorem dn3 (a b : Ex) : dn K (.f 3 a b) = fsub (dn K a) (dn K b) := rfl
theorem dn5 (a b : Ex) : dn K (.f 5 a b) = K.I (dn K a) := rfl
theorem dnx (i : Nat) : dn K (xv i) = (K.σ i).2.1 := rfl
theorem dny (i : Nat) : dn K (yv i) = (K.σ i).2.2 := rfl
theorem dnc (s : Nat) : dn K (.c s) = s := rfl
structure WdIs (w : Wd) (x y z t : Nat) : Prop where
  x : dn K w.x = x
  y : dn K w.y = y
  z : dn K w.z = z
  t : dn K w.t = t
theorem WdIs.add {w p : Wd} {x y z t px py pz pt : Nat} (h : WdIs K w x y z t) (k : WdIs K p px py pz pt) {tw : Ex} {n : Nat} (ht : dn K tw = n) :
    WdIs K (w.add p tw) (fmul (fsub (xbE x y px py) (xaE x y px py)) (fsub (xdE z pz) (xcE t pt n))) (fmul (fadd (xdE z pz) (xcE t pt n)) (fadd (xbE x y px py) (xaE x y px py))) (fmul (fsub (xdE z pz) (xcE t pt n)) (fadd (xdE z pz) (xcE t pt n))) (fmul (fsub (xbE x y px py) (xaE x y px py)) (fadd (xbE x y px py) (xaE x y px py))) := by
  constructor <;> simp only [Wd.add, Wd.fin, dn1, dn2, dn3, h.x, h.y, h.z, h.t, k.x, k.y, k.z, k.t, ht, xaE, xbE, xcE, xdE]
theorem WdIs.dbl {w : Wd} {x y z t : Nat} (h : WdIs K w x y z t) : WdIs K w.dbl (fmul (deE x y) (dfE x y z)) (fmul (dgE x y) (dhE x y)) (fmul (dfE x y z) (dgE x y)) (fmul (deE x y) (dhE x y)) := by
  constructor <;> simp only [Wd.dbl, Wd.fin, dn1, dn2, dn3, h.x, h.y, h.z, h.t, deE, dfE, dgE, dhE]
theorem WdIs.of {x y : Ex} {a b : Nat} (hx : dn K x = a) (hy : dn K y = b) : WdIs K (Wd.of x y) a b 1 (fmul a b) := ⟨hx, hy, rfl, by show dn K (.f 1 x y) = _; rw [dn1, hx, hy]⟩
theorem WdIs.pt {w : Wd} {x y z t : Nat} (h : WdIs K w x y z t) {P : Pt} (hP : Val P) (he : Ext x y z t P) : dn K w.px = P.1 ∧ dn K w.py = P.2 := by
  obtain ⟨p1, p2⟩ := ext_point hP he
  constructor
  · rw [← p1]; simp only [Wd.px, dn1, dn5, h.x, h.z, K.I_ok]
  · rw [← p2]; simp only [Wd.py, dn1, dn5, h.y, h.z, K.I_ok]
theorem dn_tw : dn K twE = fadd dN dN := rfl
end
theorem add_run {I : Nat → Nat} (hI : ∀ a, I a = pw a 57896044618658097711785492504343953926634992332820282019728792003956564819947) (P R : Pt) : (letI := (know hI (two2 P R)).gl; callN false (ctxL (conA [(xv 0, yv 0), (xv 1, yv 1)])) true 20 0 0 (.fn 45) [ptV (xv 0) (yv 0), ptV (xv 1) (yv 1)] .lf 0 (fun v _ _ => sameVv v (ptV (((Wd.of (xv 0) (yv 0)).add (Wd.of (xv 1) (yv 1)) twE).px) (((Wd.of (xv 0) (yv 0)).add (Wd.of (xv 1) (yv 1)) twE).py)))) = true := by kernel_rfl
theorem add_y' (P R : Pt) (hP : Val P) (hR : Val R) (w : World) : Calls Try.prog 45 #[pt P, pt R] w (Ret fun v w' => v = pt (addP P R) ∧ Grow w w') := by
  have a1 : P.1 < 115792089237316195423570985008687907853269984665640564039457584007913129639936 := Nat.lt_trans hP.1 (by decide)
  have a2 : P.2 < 115792089237316195423570985008687907853269984665640564039457584007913129639936 := Nat.lt_trans hP.2.1 (by decide)
  have c1 : R.1 < 115792089237316195423570985008687907853269984665640564039457584007913129639936 := Nat.lt_trans hR.1 (by decide)
  have c2 : R.2 < 115792089237316195423570985008687907853269984665640564039457584007913129639936 := Nat.lt_trans hR.2.1 (by decide)
  obtain ⟨I, hI⟩ := inv_ex
  let K := know hI (two2 P R)
  have := run_calls K (conA_ok K (tab := [(xv 0, yv 0), (xv 1, yv 1)]) (by
      intro p hp
      simp only [List.mem_cons, List.mem_nil_iff, or_false] at hp
      rcases hp with rfl | rfl
      · exact hP
      · exact hR)) (fi := fiOf Try.f45) (by kernel_rfl) (by kernel_rfl) (xs := [pt P, pt R])
    (fun ρ => by letI := K.gl; exact .cons _ _ _ _ (pt_vr K (x := xv 0) (y := yv 0) a1 a2 ρ) (.cons _ _ _ _ (pt_vr K (x := xv 1) (y := yv 1) c1 c2 ρ) .nil)) (add_run hI P R) w
  refine this.mono fun en w' ⟨x, e1, ⟨ρ, e2⟩, e3⟩ => ⟨x, e1, ?_, e3⟩
  rw [vr_pt K e2]
  obtain ⟨p1, p2⟩ := WdIs.pt K (WdIs.add K (WdIs.of K (x := xv 0) (y := yv 0) (a := P.1) (b := P.2) rfl rfl) (WdIs.of K (x := xv 1) (y := yv 1) (a := R.1) (b := R.2) rfl rfl) (dn_tw K)) (add_val hP hR) (ext_add hP hR (ext_of P) (ext_of R) tw_Z)
  rw [p1, p2]
end Go.Proofs.Ytmpjigghgedjbaa
namespace Go.Proofs.Ytmpjigghgedjbaa
open Go Go.RowKit Go.V Go.N Go.E
set_option maxRecDepth 1000000
noncomputable def conOfN (g : List V → Option Nat) : Con := ⟨fun bad vs h _ _ nx k => match g vs with
  | some n => E.nK n fun n => k (.agg (.by 32 n)) h nx
  | none => bad⟩
theorem conOfN_run (g : List V → Option Nat) {R : Type} (bad : R) (vs : List V) (h : E.H) (fl fd nx : Nat) (k : V → E.H → Nat → R) : (conOfN g).run bad vs h fl fd nx k = (conOf fun vs => (g vs).map fun n => .agg (.by 32 n)).run bad vs h fl fd nx k := by
  show (match g vs with | some n => E.nK n fun n => k (.agg (.by 32 n)) h nx | none => bad) = (match (g vs).map fun n => V.agg (.by 32 n) with | some v => k v h nx | none => bad)
  cases g vs with
  | none => rfl
  | some n => exact E.nK_eq _ _
theorem conOfN_ok [Gl] [LoopTab] {P : Program} {f : FuncId} {fi : FI} (hf : E.FnOk P f fi) {g : List V → Option Nat} (hg : GOk P f fun vs => (g vs).map fun n => .agg (.by 32 n)) : ConOk P f (conOfN g) := by
  intro R bad fl fd hfl vs h nx k
  rw [conOfN_run]
  exact conOf_ok hf hg R bad fl fd hfl vs h nx k
def nB : V → Option Nat
  | .agg r => match r.bytes with
    | some (n, s) => bif Nat.beq n 32 then some s else none
    | none => none
  | _ => none
section
variable [Gl] [LoopTab]
theorem nB_ok {v : V} {s : Nat} (h : nB v = some s) {ρ : Plc} {y : Value} (hv : VR ρ v y) : y = num s ∧ s < 115792089237316195423570985008687907853269984665640564039457584007913129639936 := by
  unfold nB at h
  split at h
  · rename_i r
    split at h
    · rename_i n s' hb
      cases h1 : Nat.beq n 32 with
      | false => rw [h1] at h; cases h
      | true =>
        rw [h1] at h
        cases h
        cases Nat.eq_of_beq_eq_true h1
        cases hv with
        | agg _ cs hr =>
          obtain ⟨rfl, hlt⟩ := rope_bytes hr hb
          exact ⟨by rw [← numL_b], by rw [big_pow]; exact hlt⟩
    · cases h
  · cases h
theorem by_vr {n : Nat} (h : n < 115792089237316195423570985008687907853269984665640564039457584007913129639936) (ρ : Plc) : VR ρ (.agg (.by 32 n)) (num n) := by
  rw [show num n = .agg (bcells 32 n).toArray by rw [← numL_b]]
  exact .agg _ _ (.bys 32 n (by rw [← big_pow]; exact h))
def n2 (F : Nat → Nat → Nat) : List V → Option Nat
  | [u, v] => match nB u, nB v with
    | some s, some t => some (F s t)
    | _, _ => none
  | _ => none
def n1 (F : Nat → Nat) : List V → Option Nat
  | [u] => match nB u with
    | some s => some (F s)
    | none => none
  | _ => none
def b1 (F : Nat → Bool) : List V → Option V
  | [u] => match nB u with
    | some s => some (.at (.bool (F s)))
    | none => none
  | _ => none
theorem n2_ok {f : Nat} {F : Nat → Nat → Nat} (hb : ∀ a b, F a b < 115792089237316195423570985008687907853269984665640564039457584007913129639936)
    (h : ∀ N M, N < 115792089237316195423570985008687907853269984665640564039457584007913129639936 → M < 115792089237316195423570985008687907853269984665640564039457584007913129639936 → ∀ w, Calls Try.prog f #[num N, num M] w (Ret fun v w' => v = num (F N M) ∧ Grow w w')) : GOk Try.prog f (fun vs => (n2 F vs).map fun n => .agg (.by 32 n)) := by
  intro vs v hv ρ xs w hvs
  simp only [n2] at hv
  split at hv
  · rename_i u1 u2
    split at hv
    · rename_i s t hx hy
      cases hv
      obtain ⟨a, b, rfl, ha, hbb⟩ := hvs.two
      obtain ⟨rfl, l1⟩ := nB_ok hx ha
      obtain ⟨rfl, l2⟩ := nB_ok hy hbb
      exact (h _ _ l1 l2 w).mono fun en w' ⟨v, e1, e2, e3⟩ => ⟨v, e1, by rw [e2]; exact by_vr (hb _ _) ρ, e3⟩
    · cases hv
  · cases hv
theorem n1_ok {f : Nat} {F : Nat → Nat} (hb : ∀ a, F a < 115792089237316195423570985008687907853269984665640564039457584007913129639936)
    (h : ∀ N, N < 115792089237316195423570985008687907853269984665640564039457584007913129639936 → ∀ w, Calls Try.prog f #[num N] w (Ret fun v w' => v = num (F N) ∧ Grow w w')) : GOk Try.prog f (fun vs => (n1 F vs).map fun n => .agg (.by 32 n)) := by
  intro vs v hv ρ xs w hvs
  simp only [n1] at hv
  split at hv
  · rename_i u1
    split at hv
    · rename_i s hx
      cases hv
      obtain ⟨a, rfl, ha⟩ := hvs.one
      obtain ⟨rfl, l1⟩ := nB_ok hx ha
      exact (h _ l1 w).mono fun en w' ⟨v, e1, e2, e3⟩ => ⟨v, e1, by rw [e2]; exact by_vr (hb _) ρ, e3⟩
    · cases hv
  · cases hv
theorem b1_ok {f : Nat} {F : Nat → Bool} (h : ∀ N, N < 115792089237316195423570985008687907853269984665640564039457584007913129639936 → ∀ w, Calls Try.prog f #[num N] w (Ret fun v w' => v = .bool (F N) ∧ Grow w w')) : GOk Try.prog f (b1 F) := by
  intro vs v hv ρ xs w hvs
  unfold b1 at hv
  split at hv
  · split at hv
    · rename_i s hx
      cases hv
      obtain ⟨a, rfl, ha⟩ := hvs.one
      obtain ⟨rfl, l1⟩ := nB_ok hx ha
      exact (h _ l1 w).mono fun en w' ⟨v, e1, e2, e3⟩ => ⟨v, e1, by rw [e2]; exact .at _ _ (.bool _), e3⟩
    · cases hv
  · cases hv
def gRoot0 : List V → Option V
  | [u] => match nB u with
    | some s => bif Nat.beq s 0 then some (.tup [.agg (.by 32 0), .at (.bool true)]) else none
    | none => none
  | _ => none
theorem pw_00 : pw 0 7237005577332262213973186563042994240829374041602535252466099000494570602494 = 0 := by
  rw [pw_pm (by decide)]; kernel_rfl
theorem rootA_0 : rootA 0 = 0 := pw_00
theorem rootB_0 : rootB 0 = 0 := rootB_of (show rootA 0 = _ from rootA_0) pw_i (by decide)
theorem has_0 : hasRoot 0 := by unfold hasRoot; rw [rootB_0]; decide
theorem root_0 : rootC 0 = 0 := by unfold rootC; rw [if_pos has_0, rootB_0]; decide
theorem gRoot0_ok : GOk Try.prog 22 gRoot0 := by
  intro vs v hv ρ xs w hvs
  unfold gRoot0 at hv
  split at hv
  · split at hv
    · rename_i s hx
      cases h0 : Nat.beq s 0 with
      | false => rw [h0] at hv; cases hv
      | true =>
        rw [h0] at hv
        cases hv
        cases Nat.eq_of_beq_eq_true h0
        obtain ⟨a, rfl, ha⟩ := hvs.one
        obtain ⟨rfl, l1⟩ := nB_ok hx ha
        have := root_c 0 (by decide) w
        rw [root_0, decide_eq_true has_0] at this
        exact this.mono fun en w' ⟨v, e1, e2, e3⟩ => ⟨v, e1, by
          rw [e2]
          exact .tup [_, _] [_, _] rfl fun i p q h1 h2 => by
            rcases i with _ | _ | i
            · simp at h1 h2; subst h1 h2; exact by_vr (by decide) ρ
            · simp at h1 h2; subst h1 h2; exact .at _ _ (.bool true)
            · simp at h1, e3⟩
    · cases hv
  · cases hv
end
noncomputable def conN : List (Nat × Con) :=
  [(21, conOfN (n2 fun a b => Nat.mod (Nat.mul a b) p25519)), (30, conOfN (n2 fun a b => Nat.mod (Nat.add a b) p25519)), (32, conOfN (n2 fun a b => Nat.mod (Nat.add a (Nat.sub p25519 (Nat.mod b p25519))) p25519)),
   (16, conOfN (n1 fun a => pm p25519 256 a 57896044618658097711785492504343953926634992332820282019728792003956564819947)), (18, conOf gOf), (24, conOf (b1 fun a => Nat.beq (Nat.mod a p25519) a)),
   (23, conOf (b1 fun a => Nat.beq (Nat.mod (Nat.mod a p25519) 2) 1)), (22, conOf gRoot0)]
theorem dec_beq (a b : Nat) : decide (a = b) = Nat.beq a b := by
  cases h : Nat.beq a b with
  | true => exact decide_eq_true (Nat.eq_of_beq_eq_true h)
  | false => exact decide_eq_false (Nat.ne_of_beq_eq_false h)
theorem conN_ok (K : Know) (i : LoopTab) (f : Nat) (c : Con) (h : (f, c) ∈ conN) : @ConOk i K.gl Try.prog f c := by
  letI := K.gl
  letI := i
  simp only [conN, List.mem_cons, Prod.mk.injEq, List.mem_nil_iff, or_false] at h
  rcases h with ⟨rfl, rfl⟩ | ⟨rfl, rfl⟩ | ⟨rfl, rfl⟩ | ⟨rfl, rfl⟩ | ⟨rfl, rfl⟩ | ⟨rfl, rfl⟩ | ⟨rfl, rfl⟩ | ⟨rfl, rfl⟩
  · exact conOfN_ok fn21 (n2_ok (fun a b => mod_big _) mul_c)
  · exact conOfN_ok fn30 (n2_ok (fun a b => mod_big _) add_c)
  · exact conOfN_ok fn32 (n2_ok (fun a b => mod_big _) sub_c)
  · exact conOfN_ok fn16 (n1_ok (fun a => by rw [← pw_pm (by decide)]; exact pw_big _ _) (fun N hN w => by have := inv_c N hN w; rw [pw_pm (by decide)] at this; exact this))
  · exact conOf_ok fn18 (gOf_ok K)
  · exact conOf_ok fn24 (b1_ok fun N hN w => by have := canon_c N hN w; rw [dec_beq] at this; exact this)
  · exact conOf_ok fn23 (b1_ok fun N hN w => by have := odd_c N hN w; rw [dec_beq] at this; exact this)
  · exact conOf_ok fn22 gRoot0_ok
theorem lives5_run {I : Nat → Nat} (hI : ∀ a, I a = pw a 57896044618658097711785492504343953926634992332820282019728792003956564819947) : (letI := (know hI fun _ => (0, zeroP)).gl; callN false (ctxL conN) true 20 0 0 (.fn 40) [] .lf 0 (fun v _ _ => sameVv v (.at (.bool true)))) = true := by kernel_rfl
theorem lives5_c (w : World) : Calls Try.prog 40 #[] w (Ret fun v w' => v = .bool true ∧ Grow w w') := by
  obtain ⟨I, hI⟩ := inv_ex
  let K := know hI fun _ => (0, zeroP)
  have := run_calls K (conN_ok K) (fi := fiOf Try.f40) (by kernel_rfl) (by kernel_rfl) (xs := []) (fun ρ => by letI := K.gl; exact .nil) (lives5_run hI) w
  refine this.mono fun en w' ⟨x, e1, ⟨ρ, e2⟩, e3⟩ => ⟨x, e1, ?_, e3⟩
  letI := K.gl
  have := e2.atom
  cases this
  rfl
end Go.Proofs.Ytmpjigghgedjbaa
namespace Go.Proofs.Ytmpjigghgedjbaa
open Go Go.RowKit Go.V Go.N Go.E
set_option maxRecDepth 1000000
def ptE : Ex → Ex → Option Ex
  | .f 10 a _, .f 11 b _ => bif a.eq b then some a else none
  | .c x, .c y => bif two (Nat.beq x 0) (Nat.beq y 1) then some (.c 0) else bif two (Nat.beq x 15112221349535400772501151409588531511454012693041857206046113283949847762202) (Nat.beq y 46316835694926478169428394003475163141307993866256225615783033603165251855960) then some (.c 1) else none
  | _, _ => none
def gPt (v : V) : Option Ex := match exP v with
  | some (x, y) => ptE x y
  | none => none
def mkP : Ex → V
  | .c 0 => .agg (.nd 32 (.by 32 0) (.by 32 1))
  | e => ptV (.f 10 e (.c 0)) (.f 11 e (.c 0))
section
variable (K : Know)
abbrev pe (e : Ex) : Pt := (dens K.I K.σ e).2
theorem ptE_ok {x y e : Ex} (h : ptE x y = some e) : (dn K x, dn K y) = pe K e := by
  unfold ptE at h
  split at h
  · rename_i a c b d
    cases h1 : a.eq b with
    | false => rw [h1] at h; cases h
    | true =>
      rw [h1] at h
      cases h
      rw [Ex.eq_eq h1]
      rfl
  · rename_i x y
    cases h1 : two (Nat.beq x 0) (Nat.beq y 1) with
    | true =>
      rw [h1, cond_true] at h
      cases h
      obtain ⟨e1, e2⟩ := two_tt h1
      rw [Nat.eq_of_beq_eq_true e1, Nat.eq_of_beq_eq_true e2]
      rfl
    | false =>
      rw [h1, cond_false] at h
      cases h2 : two (Nat.beq x 15112221349535400772501151409588531511454012693041857206046113283949847762202) (Nat.beq y 46316835694926478169428394003475163141307993866256225615783033603165251855960) with
      | true =>
        rw [h2, cond_true] at h
        cases h
        obtain ⟨e1, e2⟩ := two_tt h2
        rw [Nat.eq_of_beq_eq_true e1, Nat.eq_of_beq_eq_true e2]
        rfl
      | false => rw [h2] at h; cases h
  · cases h
theorem gPt_ok {v : V} {e : Ex} (h : gPt v = some e) {ρ : Plc} {z : Value} (hv : @VR K.gl ρ v z) : z = pt (pe K e) := by
  unfold gPt at h
  split at h
  · rename_i x y hx
    obtain ⟨e1, _, _⟩ := exP_ok K hx hv
    rw [e1, ptE_ok K h]
  · cases h
abbrev Small256 (P : Pt) : Prop := P.1 < 115792089237316195423570985008687907853269984665640564039457584007913129639936 ∧ P.2 < 115792089237316195423570985008687907853269984665640564039457584007913129639936
theorem mkP_vr {e : Ex} (h : Small256 (pe K e)) (ρ : Plc) : @VR K.gl ρ (mkP e) (pt (pe K e)) := by
  letI := K.gl
  unfold mkP
  split
  · have h1 := RR.bys (ρ := ρ) 32 0 (by decide)
    have h2 := RR.bys (ρ := ρ) 32 1 (by decide)
    have := RR.nds (ρ := ρ) 32 _ _ _ _ h1 h2 (length_bcells _ _)
    show VR ρ _ (.agg (numL 0 ++ numL 1).toArray)
    rw [numL_b, numL_b]
    exact .agg _ _ this
  · exact pt_vr K (x := .f 10 e (.c 0)) (y := .f 11 e (.c 0)) h.1 h.2 ρ
theorem val_small {P : Pt} (h : Val P) : Small256 P := ⟨Nat.lt_trans h.1 (by decide), Nat.lt_trans h.2.1 (by decide)⟩
def inE (l : List Ex) (e : Ex) : Bool := l.any fun x => x.eq e
theorem inE_ok {l : List Ex} {e : Ex} (h : inE l e = true) : e ∈ l := by
  obtain ⟨x, hx, h⟩ := List.any_eq_true.1 h
  rw [← Ex.eq_eq h]; exact hx
def nfE : List (Ex × Ex) → Ex → Ex
  | [], e => e
  | (a, b) :: l, e => bif a.eq e then b else nfE l e
theorem nfE_ok : ∀ {l : List (Ex × Ex)}, (∀ p ∈ l, pe K p.1 = pe K p.2) → ∀ e, pe K (nfE l e) = pe K e
  | [], _, e => rfl
  | (a, b) :: l, h, e => by
    unfold nfE
    cases h1 : a.eq e with
    | true => rw [cond_true, ← Ex.eq_eq h1]; exact (h (a, b) (by simp)).symm
    | false => exact nfE_ok (fun p hp => h p (by simp [hp])) e
def gAddP (vals : List Ex) (nf : List (Ex × Ex)) : List V → Option V
  | [u, v] => match gPt u, gPt v with
    | some a, some b => bif two (inE vals a) (inE vals b) then some (mkP (nfE nf (.f 20 a b))) else none
    | _, _ => none
  | _ => none
def gNegP (vals : List Ex) (nf : List (Ex × Ex)) : List V → Option V
  | [u] => match gPt u with
    | some a => bif inE vals a then some (mkP (nfE nf (.f 21 a (.c 0)))) else none
    | none => none
  | _ => none
def gChkP (vals : List Ex) : List V → Option V
  | [u] => match gPt u with
    | some a => bif inE vals a then some (.at (.int .i64 0)) else none
    | none => none
  | _ => none
def gTrue : List V → Option V
  | [] => some (.at (.bool true))
  | _ => none
variable {vals : List Ex} {nf : List (Ex × Ex)}
theorem gAddP_ok (hv : ∀ e ∈ vals, Val (pe K e)) (hn : ∀ p ∈ nf, pe K p.1 = pe K p.2) : @GOk K.gl Try.prog 45 (gAddP vals nf) := by
  letI := K.gl
  intro vs v h ρ xs w hvs
  unfold gAddP at h
  split at h
  · split at h
    · rename_i a b ha hb
      cases h1 : two (inE vals a) (inE vals b) with
      | false => rw [h1] at h; cases h
      | true =>
        rw [h1] at h
        cases h
        obtain ⟨i1, i2⟩ := two_tt h1
        obtain ⟨x, y, rfl, hx, hy⟩ := hvs.two
        have e1 := gPt_ok K ha hx
        have e2 := gPt_ok K hb hy
        subst e1 e2
        have v1 := hv a (inE_ok i1)
        have v2 := hv b (inE_ok i2)
        have hs : Small256 (pe K (nfE nf (.f 20 a b))) := by rw [nfE_ok K hn]; exact val_small (add_val v1 v2)
        refine (add_y' _ _ v1 v2 w).mono fun en w' ⟨v, e1, e2, e3⟩ => ⟨v, e1, ?_, e3⟩
        have := mkP_vr K hs ρ
        rw [nfE_ok K hn] at this
        rw [e2]
        exact this
    · cases h
  · cases h
theorem gNegP_ok (hv : ∀ e ∈ vals, Val (pe K e)) (hn : ∀ p ∈ nf, pe K p.1 = pe K p.2) : @GOk K.gl Try.prog 44 (gNegP vals nf) := by
  letI := K.gl
  intro vs v h ρ xs w hvs
  unfold gNegP at h
  split at h
  · split at h
    · rename_i a ha
      cases i1 : inE vals a with
      | false => rw [i1] at h; cases h
      | true =>
        rw [i1] at h
        cases h
        obtain ⟨x, rfl, hx⟩ := hvs.one
        have e1 := gPt_ok K ha hx
        subst e1
        have v1 := hv a (inE_ok i1)
        have hs : Small256 (pe K (nfE nf (.f 21 a (.c 0)))) := by rw [nfE_ok K hn]; exact val_small (neg_val v1)
        refine (neg_y' _ v1 w).mono fun en w' ⟨v, e1, e2, e3⟩ => ⟨v, e1, ?_, e3⟩
        have := mkP_vr K hs ρ
        rw [nfE_ok K hn] at this
        rw [e2]
        exact this
    · cases h
  · cases h
theorem gChkP_ok (hv : ∀ e ∈ vals, Val (pe K e)) : @GOk K.gl Try.prog 43 (gChkP vals) := by
  letI := K.gl
  intro vs v h ρ xs w hvs
  unfold gChkP at h
  split at h
  · split at h
    · rename_i a ha
      cases i1 : inE vals a with
      | false => rw [i1] at h; cases h
      | true =>
        rw [i1] at h
        cases h
        obtain ⟨x, rfl, hx⟩ := hvs.one
        have e1 := gPt_ok K ha hx
        subst e1
        exact (check_y' _ (hv a (inE_ok i1)) w).mono fun en w' ⟨v, e1, e2, e3⟩ => ⟨v, e1, by rw [e2]; exact i64_vr 0 (by decide) ρ, e3⟩
    · cases h
  · cases h
theorem gTrue_ok : @GOk K.gl Try.prog 40 gTrue := by
  letI := K.gl
  intro vs v h ρ xs w hvs
  unfold gTrue at h
  split at h
  · cases h
    cases hvs
    exact (lives5_c w).mono fun en w' ⟨v, e1, e2, e3⟩ => ⟨v, e1, by rw [e2]; exact .at _ _ (.bool true), e3⟩
  · cases h
noncomputable def conG (vals : List Ex) (nf : List (Ex × Ex)) : List (Nat × Con) :=
  [(40, conOf gTrue), (45, conOf (gAddP vals nf)), (44, conOf (gNegP vals nf)), (43, conOf (gChkP vals)), (18, conOf gOf)]
theorem conG_ok (hv : ∀ e ∈ vals, Val (pe K e)) (hn : ∀ p ∈ nf, pe K p.1 = pe K p.2) (i : LoopTab) (f : Nat) (c : Con) (h : (f, c) ∈ conG vals nf) : @ConOk i K.gl Try.prog f c := by
  letI := K.gl
  letI := i
  simp only [conG, List.mem_cons, Prod.mk.injEq, List.mem_nil_iff, or_false] at h
  rcases h with ⟨rfl, rfl⟩ | ⟨rfl, rfl⟩ | ⟨rfl, rfl⟩ | ⟨rfl, rfl⟩ | ⟨rfl, rfl⟩
  · exact conOf_ok fn40 (gTrue_ok K)
  · exact conOf_ok fn45 (gAddP_ok K hv hn)
  · exact conOf_ok fn44 (gNegP_ok K hv hn)
  · exact conOf_ok fn43 (gChkP_ok K hv)
  · exact conOf_ok fn18 (gOf_ok K)
theorem run_true {l : List (Nat × Con)} (hl : ∀ (i : LoopTab) f c, (f, c) ∈ l → @ConOk i K.gl Try.prog f c) {d f : Nat} {fi : FI} (hfi : fnT.get f = some fi) (hnc : ((trOf l).get f).isNone = true) {vs : List V} {xs : List Value}
    (hvs : ∀ ρ, @VRs K.gl ρ vs xs) (H : (letI := K.gl; callN false (ctxL l) true d 0 0 (.fn f) vs .lf 0 (fun v _ _ => sameVv v (.at (.bool true)))) = true) (w : World) :
    Calls Try.prog f xs.toArray w (Ret fun x w' => x = .bool true ∧ Grow w w') :=
  (run_calls K hl hfi hnc hvs H w).mono fun en w' ⟨x, e1, ⟨ρ, e2⟩, e3⟩ => ⟨x, e1, by
    letI := K.gl
    have := e2.atom
    cases this
    rfl, e3⟩
end
end Go.Proofs.Ytmpjigghgedjbaa
