import Derived.Test.YtmpjigghgedjbaaDb
import Derived.Test.YtmpjigghgedjbaaDd
set_option linter.unusedSimpArgs false
set_option linter.unusedVariables false
set_option linter.unusedSectionVars false
set_option maxHeartbeats 16000000
set_option maxRecDepth 100000
namespace Go.Proofs.Ytmpjigghgedjbaa
open Go Go.N
theorem prime25519 : IsP p25519 := prime_p
theorem pw_mod (a e : Nat) : pw (a % p25519) e = pw a e := by rw [pw_def, pw_def, ← Nat.pow_mod]
theorem pw_add (a m n : Nat) : pw a m * pw a n % p25519 = pw a (m + n) := by rw [pw_def, pw_def, pw_def, ← Nat.mul_mod, Nat.pow_add]
theorem pw_mul (a b e : Nat) : pw (a * b) e = pw a e * pw b e % p25519 := by rw [pw_def, pw_def, pw_def, ← Nat.mul_mod, Nat.mul_pow]
theorem pw_succ (a e : Nat) : pw a e * a % p25519 = pw a (e + 1) := by rw [pw_def, pw_def, Nat.mod_mul_mod, Nat.pow_succ]
theorem pw_null {a e : Nat} (h : a % p25519 = 0) (he : 0 < e) : pw a e = 0 := by rw [← pw_mod, h, pw_def, Nat.zero_pow he]; rfl
theorem fermat_p {a : Nat} (h : a % p25519 ≠ 0) : pw a (p25519 - 1) = 1 := by
 rw [pw_def]
 exact prime25519.fermat fun hd => h (Nat.mod_eq_zero_of_dvd hd)
theorem fermat {a : Nat} (h : a % p25519 ≠ 0) : pw a 57896044618658097711785492504343953926634992332820282019728792003956564819948 = 1 := by
 have h1 := fermat_p h
 rwa [show p25519 - 1 = 57896044618658097711785492504343953926634992332820282019728792003956564819948 from rfl] at h1
theorem inv_mul {a : Nat} (h : a % p25519 ≠ 0) : pw a 57896044618658097711785492504343953926634992332820282019728792003956564819947 * a % p25519 = 1 := by
 rw [pw_succ]; exact fermat h
theorem mul_null {x y : Nat} (h : x * y % p25519 = 0) : x % p25519 = 0 ∨ y % p25519 = 0 :=
 (prime25519.euclid (Nat.dvd_of_mod_eq_zero h)).imp Nat.mod_eq_zero_of_dvd Nat.mod_eq_zero_of_dvd
theorem sq_eq_aux {x y : Nat} (hle : y ≤ x) (h : x * x % p25519 = y * y % p25519) : x % p25519 = y % p25519 ∨ (x + y) % p25519 = 0 := by
 have e : x * x - y * y = (x + y) * (x - y) := Nat.mul_self_sub_mul_self_eq x y
 have h1 : (x + y) * (x - y) % p25519 = 0 := by rw [← e]; exact Nat.sub_mod_eq_zero_of_mod_eq h
 rcases mul_null h1 with h2 | h2
 ·exact Or.inr h2
 ·refine Or.inl ?_
  have : x = (x - y) + y := by omega
  rw [this, Nat.add_mod, h2, Nat.zero_add, Nat.mod_mod]
theorem sq_eq {x y : Nat} (h : x * x % p25519 = y * y % p25519) : x % p25519 = y % p25519 ∨ (x + y) % p25519 = 0 := by
 rcases Nat.le_total y x with hle | hle
 ·exact sq_eq_aux hle h
 ·rcases sq_eq_aux hle h.symm with h1 | h1
  ·exact Or.inl h1.symm
  ·exact Or.inr (by rw [Nat.add_comm]; exact h1)
theorem sq_one {x : Nat} (hx : x < p25519) (h : x * x % p25519 = 1) : x = 1 ∨ x = 57896044618658097711785492504343953926634992332820282019728792003956564819948 := by
 rcases sq_eq (x := x) (y := 1) h with h1 | h1
 ·left; rw [Nat.mod_eq_of_lt hx] at h1; exact h1
 ·right
  unfold p25519 at *
  omega
def half : Nat := 28948022309329048855892746252171976963317496166410141009864396001978282409974
theorem chi_2 : pw 2 half = 57896044618658097711785492504343953926634992332820282019728792003956564819948 := by
 rw [pw_def, ← pm_eq p25519 256 2 half (by decide)]
 exact Nat.eq_of_beq_eq_true (by kernel_rfl)
theorem rootB_lt (s : Nat) : rootB s < p25519 := by
 unfold rootB
 split
 ·exact pw_lt _ _
 ·exact Nat.mod_lt _ (by decide)
theorem has_of_chi {s : Nat} (h : s % p25519 ≠ 0) (hc : pw s half = 1) : hasRoot s := by
 unfold hasRoot
 rw [Nat.mod_mod]
 have hA : rootA s * rootA s % p25519 = s * pw s 14474011154664524427946373126085988481658748083205070504932198000989141204987 % p25519 := by
  unfold rootA
  rw [pw_add, Nat.mul_comm s, pw_succ]
 have ht : pw s 14474011154664524427946373126085988481658748083205070504932198000989141204987 * pw s 14474011154664524427946373126085988481658748083205070504932198000989141204987 % p25519 = 1 := by rw [pw_add]; exact hc
 by_cases hr : rootA s * rootA s % p25519 % p25519 = s % p25519
 ·rw [show rootB s = rootA s from if_pos hr]
  rw [Nat.mod_mod] at hr
  exact hr
 ·rw [show rootB s = rootA s * pw 2 14474011154664524427946373126085988481658748083205070504932198000989141204987 % p25519 from if_neg hr]
  rcases sq_one (pw_lt _ _) ht with h1 | h1
  ·exfalso
   apply hr
   rw [Nat.mod_mod, hA, h1, Nat.mul_one]
  ·have hi : pw 2 14474011154664524427946373126085988481658748083205070504932198000989141204987 * pw 2 14474011154664524427946373126085988481658748083205070504932198000989141204987 % p25519 = 57896044618658097711785492504343953926634992332820282019728792003956564819948 := by rw [pw_add]; exact chi_2
   generalize pw 2 14474011154664524427946373126085988481658748083205070504932198000989141204987 = i at *
   generalize rootA s = r at *
   rw [h1] at hA
   have e : (r * i) * (r * i) = (r * r) * (i * i) := by grind
   rw [← Nat.mul_mod, e, Nat.mul_mod, hA, hi, Nat.mod_mul_mod, Nat.mul_assoc, Nat.mul_mod]
   have : (57896044618658097711785492504343953926634992332820282019728792003956564819948 * 57896044618658097711785492504343953926634992332820282019728792003956564819948) % p25519 = 1 := by decide
   rw [this, Nat.mul_one, Nat.mod_mod]
theorem mul_ne {a b : Nat} (ha : a % p25519 ≠ 0) (hb : b % p25519 ≠ 0) : a * b % p25519 % p25519 ≠ 0 := by
 rw [Nat.mod_mod]
 intro h
 rcases mul_null h with h1 | h1
 ·exact ha h1
 ·exact hb h1
theorem has_sq {a : Nat} (ha : a % p25519 ≠ 0) : hasRoot (a * a % p25519) := by
 refine has_of_chi (mul_ne ha ha) ?_
 rw [pw_mod, pw_mul, pw_add]
 exact fermat ha
def evenOf (a : Nat) : Nat := if a % p25519 % 2 = 1 then (p25519 - a % p25519) % p25519 else a % p25519
theorem root_sq {a : Nat} (ha : a % p25519 ≠ 0) : rootC (a * a % p25519) = evenOf a := by
 have hh := has_sq ha
 have hsq : rootB (a * a % p25519) * rootB (a * a % p25519) % p25519 = (a % p25519) * (a % p25519) % p25519 := by
  have := hh
  unfold hasRoot at this
  rw [Nat.mod_mod, Nat.mod_mod] at this
  rw [this, Nat.mul_mod]
 have hlt := rootB_lt (a * a % p25519)
 have hy : a % p25519 < p25519 := Nat.mod_lt _ (by decide)
 unfold rootC evenOf
 rw [if_pos hh]
 generalize rootB (a * a % p25519) = x at *
 generalize a % p25519 = y at *
 have hc := sq_eq hsq
 rw [Nat.mod_eq_of_lt hlt, Nat.mod_eq_of_lt hy] at hc
 rw [Nat.mod_eq_of_lt hlt]
 unfold p25519 at *
 rcases hc with h1 | h1
 ·subst h1; rfl
 ·have h2 : x + y = 57896044618658097711785492504343953926634992332820282019728792003956564819949 := by omega
  split <;> split <;> omega
end Go.Proofs.Ytmpjigghgedjbaa
namespace Go.Proofs.Ytmpjigghgedjbaa
open Go Go.N
def Z (a : Int) : Prop := (57896044618658097711785492504343953926634992332820282019728792003956564819949 : Int) ∣ a
theorem Z.zero : Z 0 := ⟨0, by omega⟩
theorem Z.add {a b : Int} (h : Z a) (k : Z b) : Z (a + b) := Int.dvd_add h k
theorem Z.sub {a b : Int} (h : Z a) (k : Z b) : Z (a - b) := Int.dvd_sub h k
theorem Z.neg {a : Int} (h : Z a) : Z (-a) := Int.dvd_neg.2 h
theorem Z.mul {a : Int} (c : Int) (h : Z a) : Z (c * a) := Int.dvd_mul_of_dvd_right h
theorem Z.eq {a b : Int} (h : Z a) (e : b = a) : Z b := e ▸ h
theorem Z.sub_comm {a b : Int} (h : Z (a - b)) : Z (b - a) := h.neg.eq (by omega)
def cn (a : Int) : Nat := (a % 57896044618658097711785492504343953926634992332820282019728792003956564819949).toNat
theorem cn_lt (a : Int) : cn a < 57896044618658097711785492504343953926634992332820282019728792003956564819949 := by unfold cn; omega
theorem cn_Z (a : Int) : Z ((cn a : Int) - a) := by
 unfold cn Z
 have h : ((a % 57896044618658097711785492504343953926634992332820282019728792003956564819949).toNat : Int) = a % 57896044618658097711785492504343953926634992332820282019728792003956564819949 := Int.toNat_of_nonneg (by omega)
 rw [h]
 omega
theorem Z.small {a b : Nat} (ha : a < 57896044618658097711785492504343953926634992332820282019728792003956564819949) (hb : b < 57896044618658097711785492504343953926634992332820282019728792003956564819949) (h : Z ((a : Int) - b)) : a = b := by
 unfold Z at h; omega
theorem cn_of {a : Int} {b : Nat} (hb : b < 57896044618658097711785492504343953926634992332820282019728792003956564819949) (h : Z ((b : Int) - a)) : cn a = b :=
 Z.small (cn_lt a) hb ((cn_Z a).sub h |>.eq (by omega))
theorem Z.prime {a b : Int} (h : Z (a * b)) : Z a ∨ Z b := by
 unfold Z at *
 rw [← Int.natAbs_dvd_natAbs] at *
 rw [Int.natAbs_mul] at h
 rw [← Int.natAbs_dvd_natAbs]
 exact prime25519.euclid h
theorem Z.mul_ne {a b : Int} (h : ¬ Z a) (k : ¬ Z b) : ¬ Z (a * b) := fun hh => hh.prime.elim h k
theorem zmod {a b : Nat} : Z ((a : Int) - b) ↔ a % p25519 = b % p25519 := by unfold Z p25519; omega
theorem znat {a : Nat} : Z (a : Int) ↔ a % p25519 = 0 := by unfold Z p25519; omega
def inv (a : Nat) : Nat := pw a 57896044618658097711785492504343953926634992332820282019728792003956564819947
theorem inv_Z {a : Nat} (h : ¬ Z (a : Int)) : Z ((inv a : Int) * a - 1) := by
 have h1 := inv_mul (fun e => h (znat.2 e))
 have h2 : inv a * a % p25519 = 1 % p25519 := h1
 have := zmod.2 h2
 rwa [Int.natCast_mul] at this
attribute [irreducible] Z cn inv
def dN : Nat := 37095705934669439343138083508754565189542113879843219016388785533085940283555
def dI : Int := 37095705934669439343138083508754565189542113879843219016388785533085940283555
def iI : Int := 19681161376707505956807079304988542015446066515923890162744021073123829784752
theorem i_sq : Z (iI * iI + 1) := by unfold Z iI; decide +kernel
theorem chi_d : pw dN half = 57896044618658097711785492504343953926634992332820282019728792003956564819948 := by
 rw [pw_def, ← pm_eq p25519 256 dN half (by decide)]
 exact Nat.eq_of_beq_eq_true (by kernel_rfl)
theorem d_nsq {u v : Int} (h : Z (u * u - dI * (v * v))) : Z v := by
 have hu := cn_Z u
 have hv := cn_Z v
 have hn : Z (((cn u * cn u : Nat) : Int) - ((dN * (cn v * cn v) : Nat) : Int)) := by
  refine ((hu.mul (cn u + u)).sub ((hv.mul (dI * (cn v + v))))|>.add h).eq ?_
  rw [Int.natCast_mul, Int.natCast_mul, Int.natCast_mul, show ((dN : Nat) : Int) = dI from rfl]
  grind
 have hm := zmod.1 hn
 have hvv : cn v % p25519 = 0 := by
  refine Classical.byContradiction fun hne => ?_
  have e1 : pw (dN * (cn v * cn v)) half = 57896044618658097711785492504343953926634992332820282019728792003956564819948 := by
   rw [pw_mul, pw_mul, pw_add, chi_d]
   rw [show half + half = 57896044618658097711785492504343953926634992332820282019728792003956564819948 from rfl, fermat hne]
   decide
  rw [← pw_mod, ← hm, pw_mod] at e1
  by_cases hu0 : cn u % p25519 = 0
  ·rw [pw_null (by rw [Nat.mul_mod, hu0]; rfl) (by decide)] at e1
   exact absurd e1 (by decide)
  ·rw [pw_mul, pw_add, show half + half = 57896044618658097711785492504343953926634992332820282019728792003956564819948 from rfl, fermat hu0] at e1
   exact absurd e1 (by decide)
 exact ((znat.2 hvv).sub hv).eq (by omega)
theorem Z.two {a : Int} (h : Z (2 * a)) : Z a := h.prime.elim (fun h => absurd h (by unfold Z; decide)) id
theorem not_one : ¬ Z 1 := by unfold Z; decide
theorem not_two : ¬ Z 2 := by unfold Z; decide
def On (x y : Int) : Prop := Z (y * y - x * x - 1 - dI * (x * x) * (y * y))
theorem half_complete {e d i x1 y1 x2 y2 : Int} (he : e * e = 1) (hi : Z (i * i + 1)) (h1 : Z ((y1 * y1 - x1 * x1 - 1 - d * (x1 * x1) * (y1 * y1)))) (h2 : Z ((y2 * y2 - x2 * x2 - 1 - d * (x2 * x2) * (y2 * y2)))) (h : Z (e - d * (x1 * x2 * y1 * y2))) :
  Z ((i * x1 + e * y1) * (i * x1 + e * y1) - d * ((x1 * y1 * (i * x2 + y2)) * (x1 * y1 * (i * x2 + y2)))) :=
 (((h1.mul 1).add (h2.mul (-d * (x1 * x1) * (y1 * y1)))).add ((h.mul (e + d * (x1 * x2 * y1 * y2) + 2 * i * x1 * y1)).add (hi.mul (x1 * x1 - d * (x1 * x1) * (y1 * y1) * (x2 * x2))))).eq (by grind)
theorem complete {e x1 y1 x2 y2 : Int} (he : e * e = 1) (h1 : On x1 y1) (h2 : On x2 y2) : ¬ Z (e - dI * (x1 * x2 * y1 * y2)) := by
 intro h
 have a1 := d_nsq (half_complete he i_sq h1 h2 h)
 have h' : Z ((-e) - dI * (x1 * x2 * (-y1) * y2)) := h.neg.eq (by grind)
 have h1' : On x1 (-y1) := h1.eq (by grind)
 have h2' : On x2 (-y2) := h2.eq (by grind)
 have a2 := d_nsq (half_complete (e := e) he i_sq h1' h2' (h.eq (by grind)))
 have ne : ¬ Z (x1 * y1) := fun hz => by
  have : Z (e * e) := ((h.mul e).add (hz.mul (e * dI * (x2 * y2)))).eq (by grind)
  rw [he] at this
  exact not_one this
 have b1 := a1.prime.resolve_left ne
 have b2 : Z (iI * x2 + -y2) := by
  refine (a2.prime.resolve_left fun hz => ne (hz.neg.eq (by grind)))
 have b3 : Z y2 := Z.two ((b1.sub b2).eq (by grind))
 have : Z (e * e) := ((h.mul e).add (b3.mul (e * dI * (x1 * x2 * y1)))).eq (by grind)
 rw [he] at this
 exact not_one this
theorem ne_plus {x1 y1 x2 y2 : Int} (h1 : On x1 y1) (h2 : On x2 y2) : ¬ Z (1 + dI * (x1 * x2 * y1 * y2)) := fun h =>
 complete (e := -1) (by decide) h1 h2 (h.neg.eq (by omega))
theorem ne_minus {x1 y1 x2 y2 : Int} (h1 : On x1 y1) (h2 : On x2 y2) : ¬ Z (1 - dI * (x1 * x2 * y1 * y2)) := complete (e := 1) (by decide) h1 h2
theorem assoc_x {d x1 y1 x2 y2 x3 y3 : Int} (h1 : Z ((y1 * y1 - x1 * x1 - 1 - d * (x1 * x1) * (y1 * y1)))) (h2 : Z ((y2 * y2 - x2 * x2 - 1 - d * (x2 * x2) * (y2 * y2)))) (h3 : Z ((y3 * y3 - x3 * x3 - 1 - d * (x3 * x3) * (y3 * y3)))) : Z (((x1 * y2 + y1 * x2) * (1 - d * (x1 * x2 * y1 * y2)) * y3 + (y1 * y2 + x1 * x2) * (1 + d * (x1 * x2 * y1 * y2)) * x3) * ((1 + d * (x2 * x3 * y2 * y3)) * (1 - d * (x2 * x3 * y2 * y3)) + d * (x2 * y3 + y2 * x3) * (y2 * y3 + x2 * x3) * (x1 * y1)) - (x1 * (y2 * y3 + x2 * x3) * (1 + d * (x2 * x3 * y2 * y3)) + y1 * (x2 * y3 + y2 * x3) * (1 - d * (x2 * x3 * y2 * y3))) * ((1 + d * (x1 * x2 * y1 * y2)) * (1 - d * (x1 * x2 * y1 * y2)) + d * (x1 * y2 + y1 * x2) * (y1 * y2 + x1 * x2) * (x3 * y3))) :=
 (((Z.mul (-x1 * x2 * x2 * x2 * x2 * y2 * y2 * y2 * x3 * x3 * y3 * d * d - x1 * x2 * x2 * x2 * x2 * y2 * x3 * x3 * y3 * d - x1 * x2 * x2 * x2 * y2 * y2 * y2 * y2 * x3 * y3 * y3 * d * d - x1 * x2 * x2 * x2 * y2 * y2 * x3 * x3 * x3 * d - x1 * x2 * x2 * x2 * y2 * y2 * x3 * d + x1 * x2 * x2 * y2 * y2 * y2 * y3 * y3 * y3 * d - x1 * x2 * x2 * y2 * y2 * y2 * y3 * d + x1 * x2 * y2 * y2 * y2 * y2 * x3 * y3 * y3 * d + y1 * x2 * x2 * x2 * x2 * y2 * y2 * y2 * x3 * y3 * y3 * d * d + y1 * x2 * x2 * x2 * x2 * y2 * x3 * y3 * y3 * d + y1 * x2 * x2 * x2 * y2 * y2 * y2 * y2 * x3 * x3 * y3 * d * d + y1 * x2 * x2 * x2 * y2 * y2 * y3 * y3 * y3 * d - y1 * x2 * x2 * x2 * y2 * y2 * y3 * d - y1 * x2 * x2 * y2 * y2 * y2 * x3 * x3 * x3 * d - y1 * x2 * x2 * y2 * y2 * y2 * x3 * d - y1 * x2 * y2 * y2 * y2 * y2 * x3 * x3 * y3 * d) h1).add (Z.mul (x1 * x1 * x1 * x2 * x2 * y2 * x3 * x3 * y3 * d + x1 * x1 * x1 * x2 * y2 * y2 * x3 * y3 * y3 * d + x1 * x1 * x1 * x2 * x3 * x3 * x3 * y3 * y3 * d + x1 * x1 * x1 * x2 * x3 * x3 * x3 - x1 * x1 * x1 * x2 * x3 * y3 * y3 + x1 * x1 * x1 * x2 * x3 + x1 * x1 * x1 * y2 * x3 * x3 * y3 * y3 * y3 * d + x1 * x1 * x1 * y2 * x3 * x3 * y3 - x1 * x1 * x1 * y2 * y3 * y3 * y3 + x1 * x1 * x1 * y2 * y3 + x1 * x1 * y1 * x2 * x2 * y2 * x3 * x3 * x3 * y3 * y3 * d * d - x1 * x1 * y1 * x2 * x2 * y2 * x3 * y3 * y3 * d - x1 * x1 * y1 * x2 * y2 * y2 * x3 * x3 * y3 * y3 * y3 * d * d - x1 * x1 * y1 * x2 * y2 * y2 * x3 * x3 * y3 * d + x1 * x1 * y1 * x2 * x3 * x3 * y3 * y3 * y3 * d + x1 * x1 * y1 * x2 * x3 * x3 * y3 - x1 * x1 * y1 * x2 * y3 * y3 * y3 + x1 * x1 * y1 * x2 * y3 + x1 * x1 * y1 * y2 * x3 * x3 * x3 * y3 * y3 * d + x1 * x1 * y1 * y2 * x3 * x3 * x3 - x1 * x1 * y1 * y2 * x3 * y3 * y3 + x1 * x1 * y1 * y2 * x3 - x1 * y1 * y1 * x2 * x2 * y2 * x3 * x3 * y3 * y3 * y3 * d * d - x1 * y1 * y1 * x2 * x2 * y2 * x3 * x3 * y3 * d + x1 * y1 * y1 * x2 * y2 * y2 * x3 * x3 * x3 * y3 * y3 * d * d - x1 * y1 * y1 * x2 * y2 * y2 * x3 * y3 * y3 * d - x1 * y1 * y1 * x2 * x3 * x3 * x3 * y3 * y3 * d - x1 * y1 * y1 * x2 * x3 * x3 * x3 + x1 * y1 * y1 * x2 * x3 * y3 * y3 - x1 * y1 * y1 * x2 * x3 - x1 * y1 * y1 * y2 * x3 * x3 * y3 * y3 * y3 * d - x1 * y1 * y1 * y2 * x3 * x3 * y3 + x1 * y1 * y1 * y2 * y3 * y3 * y3 - x1 * y1 * y1 * y2 * y3 + x1 * x2 * x2 * y2 * x3 * x3 * y3 * d + x1 * x2 * y2 * y2 * x3 * y3 * y3 * d + x1 * x2 * x3 * x3 * x3 * y3 * y3 * d + x1 * x2 * x3 * x3 * x3 - x1 * x2 * x3 * y3 * y3 + x1 * x2 * x3 + x1 * y2 * x3 * x3 * y3 * y3 * y3 * d + x1 * y2 * x3 * x3 * y3 - x1 * y2 * y3 * y3 * y3 + x1 * y2 * y3 + y1 * y1 * y1 * x2 * x2 * y2 * x3 * y3 * y3 * d + y1 * y1 * y1 * x2 * y2 * y2 * x3 * x3 * y3 * d - y1 * y1 * y1 * x2 * x3 * x3 * y3 * y3 * y3 * d - y1 * y1 * y1 * x2 * x3 * x3 * y3 + y1 * y1 * y1 * x2 * y3 * y3 * y3 - y1 * y1 * y1 * x2 * y3 - y1 * y1 * y1 * y2 * x3 * x3 * x3 * y3 * y3 * d - y1 * y1 * y1 * y2 * x3 * x3 * x3 + y1 * y1 * y1 * y2 * x3 * y3 * y3 - y1 * y1 * y1 * y2 * x3 - y1 * x2 * x2 * y2 * x3 * y3 * y3 * d - y1 * x2 * y2 * y2 * x3 * x3 * y3 * d + y1 * x2 * x3 * x3 * y3 * y3 * y3 * d + y1 * x2 * x3 * x3 * y3 - y1 * x2 * y3 * y3 * y3 + y1 * x2 * y3 + y1 * y2 * x3 * x3 * x3 * y3 * y3 * d + y1 * y2 * x3 * x3 * x3 - y1 * y2 * x3 * y3 * y3 + y1 * y2 * x3) h2)).add (Z.mul (-x1 * x1 * x1 * x2 * x2 * x2 * x3 - x1 * x1 * x1 * x2 * x2 * y2 * y3 + x1 * x1 * x1 * x2 * y2 * y2 * x3 - x1 * x1 * x1 * x2 * x3 + x1 * x1 * x1 * y2 * y2 * y2 * y3 - x1 * x1 * x1 * y2 * y3 - x1 * x1 * y1 * x2 * x2 * x2 * y3 - x1 * x1 * y1 * x2 * x2 * y2 * x3 * d - x1 * x1 * y1 * x2 * x2 * y2 * x3 + x1 * x1 * y1 * x2 * y2 * y2 * y3 * d + x1 * x1 * y1 * x2 * y2 * y2 * y3 - x1 * x1 * y1 * x2 * y3 + x1 * x1 * y1 * y2 * y2 * y2 * x3 - x1 * x1 * y1 * y2 * x3 + x1 * y1 * y1 * x2 * x2 * x2 * x3 + x1 * y1 * y1 * x2 * x2 * y2 * y3 * d + x1 * y1 * y1 * x2 * x2 * y2 * y3 - x1 * y1 * y1 * x2 * y2 * y2 * x3 * d - x1 * y1 * y1 * x2 * y2 * y2 * x3 + x1 * y1 * y1 * x2 * x3 - x1 * y1 * y1 * y2 * y2 * y2 * y3 + x1 * y1 * y1 * y2 * y3 - x1 * x2 * x2 * x2 * x3 - x1 * x2 * x2 * y2 * y3 + x1 * x2 * y2 * y2 * x3 - x1 * x2 * x3 + x1 * y2 * y2 * y2 * y3 - x1 * y2 * y3 + y1 * y1 * y1 * x2 * x2 * x2 * y3 + y1 * y1 * y1 * x2 * x2 * y2 * x3 - y1 * y1 * y1 * x2 * y2 * y2 * y3 + y1 * y1 * y1 * x2 * y3 - y1 * y1 * y1 * y2 * y2 * y2 * x3 + y1 * y1 * y1 * y2 * x3 - y1 * x2 * x2 * x2 * y3 - y1 * x2 * x2 * y2 * x3 + y1 * x2 * y2 * y2 * y3 - y1 * x2 * y3 + y1 * y2 * y2 * y2 * x3 - y1 * y2 * x3) h3)).eq (by grind)
theorem assoc_y {d x1 y1 x2 y2 x3 y3 : Int} (h1 : Z ((y1 * y1 - x1 * x1 - 1 - d * (x1 * x1) * (y1 * y1)))) (h2 : Z ((y2 * y2 - x2 * x2 - 1 - d * (x2 * x2) * (y2 * y2)))) (h3 : Z ((y3 * y3 - x3 * x3 - 1 - d * (x3 * x3) * (y3 * y3)))) : Z (((y1 * y2 + x1 * x2) * (1 + d * (x1 * x2 * y1 * y2)) * y3 + (x1 * y2 + y1 * x2) * (1 - d * (x1 * x2 * y1 * y2)) * x3) * ((1 + d * (x2 * x3 * y2 * y3)) * (1 - d * (x2 * x3 * y2 * y3)) - d * (x2 * y3 + y2 * x3) * (y2 * y3 + x2 * x3) * (x1 * y1)) - (y1 * (y2 * y3 + x2 * x3) * (1 + d * (x2 * x3 * y2 * y3)) + x1 * (x2 * y3 + y2 * x3) * (1 - d * (x2 * x3 * y2 * y3))) * ((1 + d * (x1 * x2 * y1 * y2)) * (1 - d * (x1 * x2 * y1 * y2)) - d * (x1 * y2 + y1 * x2) * (y1 * y2 + x1 * x2) * (x3 * y3))) :=
 (((Z.mul (x1 * x2 * x2 * x2 * x2 * y2 * y2 * y2 * x3 * y3 * y3 * d * d + x1 * x2 * x2 * x2 * x2 * y2 * x3 * y3 * y3 * d + x1 * x2 * x2 * x2 * y2 * y2 * y2 * y2 * x3 * x3 * y3 * d * d + x1 * x2 * x2 * x2 * y2 * y2 * y3 * y3 * y3 * d - x1 * x2 * x2 * x2 * y2 * y2 * y3 * d - x1 * x2 * x2 * y2 * y2 * y2 * x3 * x3 * x3 * d - x1 * x2 * x2 * y2 * y2 * y2 * x3 * d - x1 * x2 * y2 * y2 * y2 * y2 * x3 * x3 * y3 * d - y1 * x2 * x2 * x2 * x2 * y2 * y2 * y2 * x3 * x3 * y3 * d * d - y1 * x2 * x2 * x2 * x2 * y2 * x3 * x3 * y3 * d - y1 * x2 * x2 * x2 * y2 * y2 * y2 * y2 * x3 * y3 * y3 * d * d - y1 * x2 * x2 * x2 * y2 * y2 * x3 * x3 * x3 * d - y1 * x2 * x2 * x2 * y2 * y2 * x3 * d + y1 * x2 * x2 * y2 * y2 * y2 * y3 * y3 * y3 * d - y1 * x2 * x2 * y2 * y2 * y2 * y3 * d + y1 * x2 * y2 * y2 * y2 * y2 * x3 * y3 * y3 * d) h1).add (Z.mul (-x1 * x1 * x1 * x2 * x2 * y2 * x3 * y3 * y3 * d - x1 * x1 * x1 * x2 * y2 * y2 * x3 * x3 * y3 * d + x1 * x1 * x1 * x2 * x3 * x3 * y3 * y3 * y3 * d + x1 * x1 * x1 * x2 * x3 * x3 * y3 - x1 * x1 * x1 * x2 * y3 * y3 * y3 + x1 * x1 * x1 * x2 * y3 + x1 * x1 * x1 * y2 * x3 * x3 * x3 * y3 * y3 * d + x1 * x1 * x1 * y2 * x3 * x3 * x3 - x1 * x1 * x1 * y2 * x3 * y3 * y3 + x1 * x1 * x1 * y2 * x3 + x1 * x1 * y1 * x2 * x2 * y2 * x3 * x3 * y3 * y3 * y3 * d * d + x1 * x1 * y1 * x2 * x2 * y2 * x3 * x3 * y3 * d - x1 * x1 * y1 * x2 * y2 * y2 * x3 * x3 * x3 * y3 * y3 * d * d + x1 * x1 * y1 * x2 * y2 * y2 * x3 * y3 * y3 * d + x1 * x1 * y1 * x2 * x3 * x3 * x3 * y3 * y3 * d + x1 * x1 * y1 * x2 * x3 * x3 * x3 - x1 * x1 * y1 * x2 * x3 * y3 * y3 + x1 * x1 * y1 * x2 * x3 + x1 * x1 * y1 * y2 * x3 * x3 * y3 * y3 * y3 * d + x1 * x1 * y1 * y2 * x3 * x3 * y3 - x1 * x1 * y1 * y2 * y3 * y3 * y3 + x1 * x1 * y1 * y2 * y3 - x1 * y1 * y1 * x2 * x2 * y2 * x3 * x3 * x3 * y3 * y3 * d * d + x1 * y1 * y1 * x2 * x2 * y2 * x3 * y3 * y3 * d + x1 * y1 * y1 * x2 * y2 * y2 * x3 * x3 * y3 * y3 * y3 * d * d + x1 * y1 * y1 * x2 * y2 * y2 * x3 * x3 * y3 * d - x1 * y1 * y1 * x2 * x3 * x3 * y3 * y3 * y3 * d - x1 * y1 * y1 * x2 * x3 * x3 * y3 + x1 * y1 * y1 * x2 * y3 * y3 * y3 - x1 * y1 * y1 * x2 * y3 - x1 * y1 * y1 * y2 * x3 * x3 * x3 * y3 * y3 * d - x1 * y1 * y1 * y2 * x3 * x3 * x3 + x1 * y1 * y1 * y2 * x3 * y3 * y3 - x1 * y1 * y1 * y2 * x3 - x1 * x2 * x2 * y2 * x3 * y3 * y3 * d - x1 * x2 * y2 * y2 * x3 * x3 * y3 * d + x1 * x2 * x3 * x3 * y3 * y3 * y3 * d + x1 * x2 * x3 * x3 * y3 - x1 * x2 * y3 * y3 * y3 + x1 * x2 * y3 + x1 * y2 * x3 * x3 * x3 * y3 * y3 * d + x1 * y2 * x3 * x3 * x3 - x1 * y2 * x3 * y3 * y3 + x1 * y2 * x3 - y1 * y1 * y1 * x2 * x2 * y2 * x3 * x3 * y3 * d - y1 * y1 * y1 * x2 * y2 * y2 * x3 * y3 * y3 * d - y1 * y1 * y1 * x2 * x3 * x3 * x3 * y3 * y3 * d - y1 * y1 * y1 * x2 * x3 * x3 * x3 + y1 * y1 * y1 * x2 * x3 * y3 * y3 - y1 * y1 * y1 * x2 * x3 - y1 * y1 * y1 * y2 * x3 * x3 * y3 * y3 * y3 * d - y1 * y1 * y1 * y2 * x3 * x3 * y3 + y1 * y1 * y1 * y2 * y3 * y3 * y3 - y1 * y1 * y1 * y2 * y3 + y1 * x2 * x2 * y2 * x3 * x3 * y3 * d + y1 * x2 * y2 * y2 * x3 * y3 * y3 * d + y1 * x2 * x3 * x3 * x3 * y3 * y3 * d + y1 * x2 * x3 * x3 * x3 - y1 * x2 * x3 * y3 * y3 + y1 * x2 * x3 + y1 * y2 * x3 * x3 * y3 * y3 * y3 * d + y1 * y2 * x3 * x3 * y3 - y1 * y2 * y3 * y3 * y3 + y1 * y2 * y3) h2)).add (Z.mul (-x1 * x1 * x1 * x2 * x2 * x2 * y3 - x1 * x1 * x1 * x2 * x2 * y2 * x3 + x1 * x1 * x1 * x2 * y2 * y2 * y3 - x1 * x1 * x1 * x2 * y3 + x1 * x1 * x1 * y2 * y2 * y2 * x3 - x1 * x1 * x1 * y2 * x3 - x1 * x1 * y1 * x2 * x2 * x2 * x3 - x1 * x1 * y1 * x2 * x2 * y2 * y3 * d - x1 * x1 * y1 * x2 * x2 * y2 * y3 + x1 * x1 * y1 * x2 * y2 * y2 * x3 * d + x1 * x1 * y1 * x2 * y2 * y2 * x3 - x1 * x1 * y1 * x2 * x3 + x1 * x1 * y1 * y2 * y2 * y2 * y3 - x1 * x1 * y1 * y2 * y3 + x1 * y1 * y1 * x2 * x2 * x2 * y3 + x1 * y1 * y1 * x2 * x2 * y2 * x3 * d + x1 * y1 * y1 * x2 * x2 * y2 * x3 - x1 * y1 * y1 * x2 * y2 * y2 * y3 * d - x1 * y1 * y1 * x2 * y2 * y2 * y3 + x1 * y1 * y1 * x2 * y3 - x1 * y1 * y1 * y2 * y2 * y2 * x3 + x1 * y1 * y1 * y2 * x3 - x1 * x2 * x2 * x2 * y3 - x1 * x2 * x2 * y2 * x3 + x1 * x2 * y2 * y2 * y3 - x1 * x2 * y3 + x1 * y2 * y2 * y2 * x3 - x1 * y2 * x3 + y1 * y1 * y1 * x2 * x2 * x2 * x3 + y1 * y1 * y1 * x2 * x2 * y2 * y3 - y1 * y1 * y1 * x2 * y2 * y2 * x3 + y1 * y1 * y1 * x2 * x3 - y1 * y1 * y1 * y2 * y2 * y2 * y3 + y1 * y1 * y1 * y2 * y3 - y1 * x2 * x2 * x2 * x3 - y1 * x2 * x2 * y2 * y3 + y1 * x2 * y2 * y2 * x3 - y1 * x2 * x3 + y1 * y2 * y2 * y2 * y3 - y1 * y2 * y3) h3)).eq (by grind)
theorem closed_xy {d x1 y1 x2 y2 : Int} (h1 : Z ((y1 * y1 - x1 * x1 - 1 - d * (x1 * x1) * (y1 * y1)))) (h2 : Z ((y2 * y2 - x2 * x2 - 1 - d * (x2 * x2) * (y2 * y2)))) : Z (((y1 * y2 + x1 * x2) * (1 + d * (x1 * x2 * y1 * y2))) * ((y1 * y2 + x1 * x2) * (1 + d * (x1 * x2 * y1 * y2))) - ((x1 * y2 + y1 * x2) * (1 - d * (x1 * x2 * y1 * y2))) * ((x1 * y2 + y1 * x2) * (1 - d * (x1 * x2 * y1 * y2))) - ((1 + d * (x1 * x2 * y1 * y2)) * (1 - d * (x1 * x2 * y1 * y2))) * ((1 + d * (x1 * x2 * y1 * y2)) * (1 - d * (x1 * x2 * y1 * y2))) - d * ((x1 * y2 + y1 * x2) * (x1 * y2 + y1 * x2)) * ((y1 * y2 + x1 * x2) * (y1 * y2 + x1 * x2))) :=
 ((Z.mul (x1 * x1 * y1 * y1 * x2 * x2 * x2 * x2 * y2 * y2 * y2 * y2 * d * d * d - x1 * x1 * x2 * x2 * x2 * x2 * y2 * y2 * y2 * y2 * d * d - x1 * x1 * x2 * x2 * x2 * x2 * y2 * y2 * d + x1 * x1 * x2 * x2 * y2 * y2 * y2 * y2 * d + y1 * y1 * x2 * x2 * x2 * x2 * y2 * y2 * y2 * y2 * d * d + y1 * y1 * x2 * x2 * x2 * x2 * y2 * y2 * d - y1 * y1 * x2 * x2 * y2 * y2 * y2 * y2 * d - x2 * x2 * x2 * x2 * y2 * y2 * y2 * y2 * d * d - 2 * x2 * x2 * x2 * x2 * y2 * y2 * y2 * y2 * d - 2 * x2 * x2 * x2 * x2 * y2 * y2 + x2 * x2 * x2 * x2 + 2 * x2 * x2 * y2 * y2 * y2 * y2 - 2 * x2 * x2 * y2 * y2 * d - 4 * x2 * x2 * y2 * y2 + y2 * y2 * y2 * y2) h1).add (Z.mul (x1 * x1 * x1 * x1 * x2 * x2 * y2 * y2 * d + 2 * x1 * x1 * x2 * x2 * y2 * y2 * d + 2 * x1 * x1 * x2 * x2 * y2 * y2 - x1 * x1 * x2 * x2 + x1 * x1 * y2 * y2 + y1 * y1 * y1 * y1 * x2 * x2 * y2 * y2 * d - 2 * y1 * y1 * x2 * x2 * y2 * y2 * d - 2 * y1 * y1 * x2 * x2 * y2 * y2 + y1 * y1 * x2 * x2 - y1 * y1 * y2 * y2 + x2 * x2 * y2 * y2 * d + 2 * x2 * x2 * y2 * y2 - x2 * x2 + y2 * y2 + 1) h2)).eq (by grind)
theorem same_by {x x' D A : Int} (hD : ¬ Z D) (h : Z (x * D - A)) (h' : Z (x' * D - A)) : Z (x - x') :=
 (((h.sub h').eq (show (x - x') * D = _ by grind)).prime).resolve_right hD
end Go.Proofs.Ytmpjigghgedjbaa
namespace Go.Proofs.Ytmpjigghgedjbaa
open Go Go.N
abbrev Pt := Nat × Nat
def Val (P : Pt) : Prop := P.1 < p25519 ∧ P.2 < p25519 ∧ On P.1 P.2
def den (s : Int) (P Q : Pt) : Int := 1 + s * (dI * ((P.1 : Int) * Q.1 * P.2 * Q.2))
def addP (P Q : Pt) : Pt :=
 (cn (((P.1 : Int) * Q.2 + P.2 * Q.1) * inv (cn (den 1 P Q))), cn (((P.2 : Int) * Q.2 + P.1 * Q.1) * inv (cn (den (-1) P Q))))
theorem den_1 (P Q : Pt) : den 1 P Q = 1 + dI * ((P.1 : Int) * Q.1 * P.2 * Q.2) := by unfold den; grind
theorem den_m (P Q : Pt) : den (-1) P Q = 1 - dI * ((P.1 : Int) * Q.1 * P.2 * Q.2) := by unfold den; grind
theorem den_plus {P Q : Pt} (hP : Val P) (hQ : Val Q) : ¬ Z (den 1 P Q) := fun h => ne_plus hP.2.2 hQ.2.2 (h.eq (by unfold den; grind))
theorem den_minus {P Q : Pt} (hP : Val P) (hQ : Val Q) : ¬ Z (den (-1) P Q) := fun h => ne_minus hP.2.2 hQ.2.2 (h.eq (by unfold den; grind))
theorem quot_Z {D N : Int} (h : ¬ Z D) : Z ((cn (N * inv (cn D)) : Int) * D - N) := by
 have h1 := cn_Z D
 have h2 : ¬ Z ((cn D : Nat) : Int) := fun hz => h ((hz.sub h1).eq (by omega))
 have h3 := inv_Z h2
 have h4 := cn_Z (N * inv (cn D))
 generalize (cn (N * inv (cn D)) : Int) = x at *
 generalize (cn D : Int) = c at *
 generalize (inv (cn D) : Int) = i at *
 exact (((h4.mul D).add (h3.mul N)).sub (h1.mul (N * i))).eq (by grind)
theorem add_x {P Q : Pt} (hP : Val P) (hQ : Val Q) : Z (((addP P Q).1 : Int) * den 1 P Q - (P.1 * Q.2 + P.2 * Q.1)) := quot_Z (den_plus hP hQ)
theorem add_y {P Q : Pt} (hP : Val P) (hQ : Val Q) : Z (((addP P Q).2 : Int) * den (-1) P Q - (P.2 * Q.2 + P.1 * Q.1)) := quot_Z (den_minus hP hQ)
theorem add_lt (P Q : Pt) : (addP P Q).1 < p25519 ∧ (addP P Q).2 < p25519 := ⟨cn_lt _, cn_lt _⟩
attribute [irreducible] addP
theorem pt_same {P Q : Pt} (hP : P.1 < p25519 ∧ P.2 < p25519) (hQ : Q.1 < p25519 ∧ Q.2 < p25519) (h1 : Z ((P.1 : Int) - Q.1)) (h2 : Z ((P.2 : Int) - Q.2)) : P = Q :=
 Prod.ext (Z.small hP.1 hQ.1 h1) (Z.small hP.2 hQ.2 h2)
theorem add_is {P Q R : Pt} (hP : Val P) (hQ : Val Q) (hR : R.1 < p25519 ∧ R.2 < p25519) (h1 : Z ((R.1 : Int) * den 1 P Q - (P.1 * Q.2 + P.2 * Q.1))) (h2 : Z ((R.2 : Int) * den (-1) P Q - (P.2 * Q.2 + P.1 * Q.1))) : addP P Q = R :=
 pt_same (add_lt P Q) hR (same_by (den_plus hP hQ) (add_x hP hQ) h1) (same_by (den_minus hP hQ) (add_y hP hQ) h2)
theorem sq_of {x D A : Int} (h : Z (x * D - A)) : Z (x * D * (x * D) - A * A) := (h.mul (x * D + A)).eq (by grind)
theorem add_val {P Q : Pt} (hP : Val P) (hQ : Val Q) : Val (addP P Q) := by
 refine ⟨(add_lt P Q).1, (add_lt P Q).2, ?_⟩
 have hx := add_x hP hQ
 have hy := add_y hP hQ
 have n1 := den_plus hP hQ
 have n2 := den_minus hP hQ
 have hc := closed_xy (d := dI) hP.2.2 hQ.2.2
 have e1 : den 1 P Q = 1 + dI * ((P.1 : Int) * Q.1 * P.2 * Q.2) := by unfold den; grind
 have e2 : den (-1) P Q = 1 - dI * ((P.1 : Int) * Q.1 * P.2 * Q.2) := by unfold den; grind
 rw [← e1, ← e2] at hc
 unfold On
 generalize ((addP P Q).1 : Int) = x at *
 generalize ((addP P Q).2 : Int) = y at *
 generalize den 1 P Q = Dp at *
 generalize den (-1) P Q = Dm at *
 generalize ((P.1 : Int) * Q.2 + P.2 * Q.1) = A at *
 generalize ((P.2 : Int) * Q.2 + P.1 * Q.1) = B at *
 have sx := sq_of hx
 have sy := sq_of hy
 have key : Z ((Dp * Dm) * ((Dp * Dm) * (y * y - x * x - 1 - dI * (x * x) * (y * y)))) :=
  (((sy.mul (Dp * Dp)).sub (sx.mul (Dm * Dm))).sub ((sx.mul (dI * (y * Dm * (y * Dm)))).add (sy.mul (dI * (A * A))))|>.add hc).eq (by grind)
 exact (key.prime.resolve_left (Z.mul_ne n1 n2)).prime.resolve_left (Z.mul_ne n1 n2)
theorem add_comm' {P Q : Pt} (hP : Val P) (hQ : Val Q) : addP P Q = addP Q P :=
 add_is hP hQ (add_lt Q P) ((add_x hQ hP).eq (by unfold den; grind)) ((add_y hQ hP).eq (by unfold den; grind))
theorem lift_x {d x12 y12 x3 y3 x Dp Dm A B : Int} (ha : Z (x12 * Dp - A)) (hb : Z (y12 * Dm - B)) (hx : Z (x * (1 + d * (x12 * x3 * y12 * y3)) - (x12 * y3 + y12 * x3))) :
  Z (x * (Dp * Dm + d * A * B * (x3 * y3)) - (A * Dm * y3 + B * Dp * x3)) :=
 ((hx.mul (Dp * Dm)).add (((ha.mul (Dm * y3 - x * d * x3 * y3 * B)).add (hb.mul (Dp * x3 - x * d * x3 * y3 * (x12 * Dp)))))).eq (by grind)
theorem lift_y {d x12 y12 x3 y3 y Dp Dm A B : Int} (ha : Z (x12 * Dp - A)) (hb : Z (y12 * Dm - B)) (hy : Z (y * (1 - d * (x12 * x3 * y12 * y3)) - (y12 * y3 + x12 * x3))) :
  Z (y * (Dp * Dm - d * A * B * (x3 * y3)) - (B * Dp * y3 + A * Dm * x3)) :=
 ((hy.mul (Dp * Dm)).add (((ha.mul (Dm * x3 + y * d * x3 * y3 * B)).add (hb.mul (Dp * y3 + y * d * x3 * y3 * (x12 * Dp)))))).eq (by grind)
theorem lift_ne {s d x12 y12 x3 y3 Dp Dm A B : Int} (ha : Z (x12 * Dp - A)) (hb : Z (y12 * Dm - B)) (h1 : ¬ Z Dp) (h2 : ¬ Z Dm) (h3 : ¬ Z (1 + s * (d * (x12 * x3 * y12 * y3)))) : ¬ Z (Dp * Dm + s * (d * A * B * (x3 * y3))) := fun h =>
 Z.mul_ne (Z.mul_ne h1 h2) h3 ((h.add ((ha.mul (s * d * x3 * y3 * B)).add (hb.mul (s * d * x3 * y3 * (x12 * Dp))))).eq (by grind))
theorem cross {x x' N M N' M' : Int} (h : Z (x * M - N)) (h' : Z (x' * M' - N')) (hm : ¬ Z M) (hm' : ¬ Z M') (hc : Z (N * M' - N' * M)) : Z (x - x') :=
 ((((h.mul M').sub (h'.mul M)).add hc).eq (show (x - x') * (M * M') = _ by grind)).prime.resolve_right (Z.mul_ne hm hm')
theorem add_assoc' {P Q R : Pt} (hP : Val P) (hQ : Val Q) (hR : Val R) : addP (addP P Q) R = addP P (addP Q R) := by
 have hPQ := add_val hP hQ
 have hQR := add_val hQ hR
 rw [add_comm' hP hQR]
 have ax := add_x hP hQ
 have ay := add_y hP hQ
 have bx := add_x hQ hR
 have by' := add_y hQ hR
 have cx := add_x hPQ hR
 have cy := add_y hPQ hR
 have dx := add_x hQR hP
 have dy := add_y hQR hP
 have n1 := den_plus hP hQ
 have n2 := den_minus hP hQ
 have n3 := den_plus hQ hR
 have n4 := den_minus hQ hR
 have n5 := den_plus hPQ hR
 have n6 := den_minus hPQ hR
 have n7 := den_plus hQR hP
 have n8 := den_minus hQR hP
 have hl := add_lt (addP P Q) R
 have hr := add_lt (addP Q R) P
 have ix := assoc_x (d := dI) hP.2.2 hQ.2.2 hR.2.2
 have iy := assoc_y (d := dI) hP.2.2 hQ.2.2 hR.2.2
 rw [den_1] at cx dx
 rw [den_m] at cy dy
 have fx := cx
 have fy := cy
 have gx := dx
 have gy := dy
 have e1 : den 1 P Q = 1 + dI * ((P.1 : Int) * Q.1 * P.2 * Q.2) := by unfold den; grind
 have e2 : den (-1) P Q = 1 - dI * ((P.1 : Int) * Q.1 * P.2 * Q.2) := by unfold den; grind
 have e3 : den 1 Q R = 1 + dI * ((Q.1 : Int) * R.1 * Q.2 * R.2) := by unfold den; grind
 have e4 : den (-1) Q R = 1 - dI * ((Q.1 : Int) * R.1 * Q.2 * R.2) := by unfold den; grind
 rw [← e1, ← e2, ← e3, ← e4] at ix iy
 refine pt_same hl hr ?_ ?_
 ·refine cross (lift_x (d := dI) (x3 := R.1) (y3 := R.2) ax ay fx) (lift_x (d := dI) (x3 := P.1) (y3 := P.2) bx by' gx) ?_ ?_ (ix.eq (by grind))
  ·exact fun h => lift_ne (s := 1) ax ay n1 n2 n5 (h.eq (by rw [Int.one_mul]))
  ·exact fun h => lift_ne (s := 1) bx by' n3 n4 n7 (h.eq (by rw [Int.one_mul]))
 ·refine cross (lift_y (d := dI) (x3 := R.1) (y3 := R.2) ax ay fy) (lift_y (d := dI) (x3 := P.1) (y3 := P.2) bx by' gy) ?_ ?_ (iy.eq (by grind))
  ·exact fun h => lift_ne (s := -1) ax ay n1 n2 n6 (h.eq (by rw [Int.neg_one_mul]; rfl))
  ·exact fun h => lift_ne (s := -1) bx by' n3 n4 n8 (h.eq (by rw [Int.neg_one_mul]; rfl))
def zeroP : Pt := (0, 1)
def negP (P : Pt) : Pt := (cn (-(P.1 : Int)), P.2)
theorem zero_val : Val zeroP := ⟨by decide, by decide, Z.zero.eq (by unfold zeroP; simp)⟩
theorem add_zero' {P : Pt} (hP : Val P) : addP P zeroP = P :=
 add_is hP zero_val ⟨hP.1, hP.2.1⟩ (Z.zero.eq (by unfold den zeroP; simp)) (Z.zero.eq (by unfold den zeroP; simp))
theorem zero_add' {P : Pt} (hP : Val P) : addP zeroP P = P := by rw [add_comm' zero_val hP, add_zero' hP]
theorem neg_Z (P : Pt) : Z (((negP P).1 : Int) + P.1) := (cn_Z (-(P.1 : Int))).eq (by unfold negP; simp)
theorem neg_val {P : Pt} (hP : Val P) : Val (negP P) := by
 refine ⟨cn_lt _, hP.2.1, ?_⟩
 have h := neg_Z P
 have h2 := hP.2.2
 have e : (negP P).2 = P.2 := rfl
 unfold On at *
 rw [e]
 exact (h2.sub (h.mul (((negP P).1 : Int) - P.1 + dI * (((negP P).1 : Int) - P.1) * (P.2 * P.2)))).eq (by grind)
def mulP : Nat → Pt → Pt
 | 0, _ => zeroP
 | n + 1, P => addP (mulP n P) P
theorem mul_val {P : Pt} (hP : Val P) : ∀ n, Val (mulP n P)
 | 0 => zero_val
 | n + 1 => by unfold mulP; exact add_val (mul_val hP n) hP
theorem mul_one' {P : Pt} (hP : Val P) : mulP 1 P = P := by unfold mulP mulP; exact zero_add' hP
theorem mul_add' {P : Pt} (hP : Val P) (m : Nat) : ∀ n, mulP (m + n) P = addP (mulP m P) (mulP n P)
 | 0 => by show mulP m P = addP (mulP m P) zeroP; rw [add_zero' (mul_val hP m)]
 | n + 1 => by
  show addP (mulP (m + n) P) P = addP (mulP m P) (addP (mulP n P) P)
  rw [mul_add' hP m n, add_assoc' (mul_val hP m) (mul_val hP n) hP]
theorem mul_zeroP : ∀ n, mulP n zeroP = zeroP
 | 0 => rfl
 | n + 1 => by show addP (mulP n zeroP) zeroP = zeroP; rw [mul_zeroP n, add_zero' zero_val]
end Go.Proofs.Ytmpjigghgedjbaa
namespace Go.N
end Go.N
namespace Go.Proofs.Ytmpjigghgedjbaa
open Go Go.N
def fadd (a b : Nat) : Nat := (a + b) % p25519
def fsub (a b : Nat) : Nat := (a + (p25519 - b % p25519)) % p25519
def fmul (a b : Nat) : Nat := a * b % p25519
theorem fadd_Z (a b : Nat) : Z ((fadd a b : Int) - (a + b)) := by
 have : Z ((fadd a b : Int) - ((a + b : Nat) : Int)) := zmod.2 (by unfold fadd; exact Nat.mod_mod _ _)
 exact this.eq (by omega)
theorem fsub_Z (a b : Nat) : Z ((fsub a b : Int) - (a - b)) := by
 unfold Z fsub p25519; omega
theorem fmul_Z (a b : Nat) : Z ((fmul a b : Int) - a * b) := by
 have : Z ((fmul a b : Int) - ((a * b : Nat) : Int)) := zmod.2 (by unfold fmul; exact Nat.mod_mod _ _)
 exact this.eq (by rw [Int.natCast_mul])
def Ext (x y z t : Nat) (P : Pt) : Prop := ¬ Z (z : Int) ∧ Z ((x : Int) - P.1 * z) ∧ Z ((y : Int) - P.2 * z) ∧ Z ((t : Int) - P.1 * P.2 * z)
theorem ext_fin {P Q : Pt} (hP : Val P) (hQ : Val Q) {e f g h : Nat} {k l : Int} (hk : ¬ Z k) (hl : ¬ Z l)
  (h1 : Z ((e : Int) - k * (P.1 * Q.2 + P.2 * Q.1))) (h2 : Z ((g : Int) - k * den 1 P Q)) (h3 : Z ((f : Int) - l * den (-1) P Q)) (h4 : Z ((h : Int) - l * (P.2 * Q.2 + P.1 * Q.1))) :
  Ext (fmul e f) (fmul g h) (fmul f g) (fmul e h) (addP P Q) := by
 have ax := add_x hP hQ
 have ay := add_y hP hQ
 have n1 := den_plus hP hQ
 have n2 := den_minus hP hQ
 have m1 := fmul_Z e f
 have m2 := fmul_Z g h
 have m3 := fmul_Z f g
 have m4 := fmul_Z e h
 unfold Ext
 generalize ((addP P Q).1 : Int) = x at *
 generalize ((addP P Q).2 : Int) = y at *
 generalize den 1 P Q = Dp at *
 generalize den (-1) P Q = Dm at *
 generalize ((P.1 : Int) * Q.2 + P.2 * Q.1) = A at *
 generalize ((P.2 : Int) * Q.2 + P.1 * Q.1) = B at *
 have e1 : Z ((e : Int) - x * g) := ((h1.sub (h2.mul x)).sub (ax.mul k)).eq (by grind)
 have e2 : Z ((h : Int) - y * f) := ((h4.sub (h3.mul y)).sub (ay.mul l)).eq (by grind)
 have nf : ¬ Z (f : Int) := fun hz => Z.mul_ne hl n2 ((hz.sub h3).eq (by grind))
 have ng : ¬ Z (g : Int) := fun hz => Z.mul_ne hk n1 ((hz.sub h2).eq (by grind))
 refine ⟨fun hz => Z.mul_ne nf ng ((hz.sub m3).eq (by grind)), ?_, ?_, ?_⟩
 ·exact ((m1.sub (m3.mul x)).add (e1.mul f)).eq (by grind)
 ·exact ((m2.sub (m3.mul y)).add (e2.mul g)).eq (by grind)
 ·exact ((m4.sub (m3.mul (x * y))).add ((e1.mul h).add (e2.mul (x * g)))).eq (by grind)
def xaE (x y px py : Nat) : Nat := fmul (fsub y x) (fsub py px)
def xbE (x y px py : Nat) : Nat := fmul (fadd y x) (fadd py px)
def xcE (t pt tw : Nat) : Nat := fmul (fmul t tw) pt
def xdE (z pz : Nat) : Nat := fadd (fmul z pz) (fmul z pz)
theorem ext_add {x y z t px py pz pt tw : Nat} {P Q : Pt} (hP : Val P) (hQ : Val Q) (h : Ext x y z t P) (k : Ext px py pz pt Q) (htw : Z ((tw : Int) - 2 * dI)) :
  Ext (fmul (fsub (xbE x y px py) (xaE x y px py)) (fsub (xdE z pz) (xcE t pt tw))) (fmul (fadd (xdE z pz) (xcE t pt tw)) (fadd (xbE x y px py) (xaE x y px py)))
   (fmul (fsub (xdE z pz) (xcE t pt tw)) (fadd (xdE z pz) (xcE t pt tw))) (fmul (fsub (xbE x y px py) (xaE x y px py)) (fadd (xbE x y px py) (xaE x y px py))) (addP P Q) := by
 obtain ⟨h0, h1, h2, h3⟩ := h
 obtain ⟨k0, k1, k2, k3⟩ := k
 have hk : ¬ Z (2 * ((z : Int) * pz)) := Z.mul_ne not_two (Z.mul_ne h0 k0)
 have ha : Z ((xaE x y px py : Int) - z * pz * (P.2 - P.1) * (Q.2 - Q.1)) := by
  have a1 := fmul_Z (fsub y x) (fsub py px)
  have a2 := fsub_Z y x
  have a3 := fsub_Z py px
  unfold xaE
  have b1 : Z ((fsub y x : Int) - z * (P.2 - P.1)) := ((a2.add h2).sub h1).eq (by grind)
  have b2 : Z ((fsub py px : Int) - pz * (Q.2 - Q.1)) := ((a3.add k2).sub k1).eq (by grind)
  generalize (fmul (fsub y x) (fsub py px) : Int) = u at *
  generalize (fsub y x : Int) = v at *
  generalize (fsub py px : Int) = w at *
  exact (a1.add ((b1.mul w).add (b2.mul (z * (P.2 - P.1))))).eq (by grind)
 have hb : Z ((xbE x y px py : Int) - z * pz * (P.2 + P.1) * (Q.2 + Q.1)) := by
  have a1 := fmul_Z (fadd y x) (fadd py px)
  have a2 := fadd_Z y x
  have a3 := fadd_Z py px
  unfold xbE
  have b1 : Z ((fadd y x : Int) - z * (P.2 + P.1)) := ((a2.add h2).add h1).eq (by grind)
  have b2 : Z ((fadd py px : Int) - pz * (Q.2 + Q.1)) := ((a3.add k2).add k1).eq (by grind)
  generalize (fmul (fadd y x) (fadd py px) : Int) = u at *
  generalize (fadd y x : Int) = v at *
  generalize (fadd py px : Int) = w at *
  exact (a1.add ((b1.mul w).add (b2.mul (z * (P.2 + P.1))))).eq (by grind)
 have hc : Z ((xcE t pt tw : Int) - 2 * (z * pz) * (dI * (P.1 * Q.1 * P.2 * Q.2))) := by
  have a1 := fmul_Z (fmul t tw) pt
  have a2 := fmul_Z t tw
  unfold xcE
  generalize (fmul (fmul t tw) pt : Int) = u at *
  generalize (fmul t tw : Int) = v at *
  have b1 : Z (v - 2 * dI * (P.1 * P.2 * z)) := ((a2.add (h3.mul tw)).add (htw.mul (P.1 * P.2 * z))).eq (by grind)
  exact ((a1.add (b1.mul pt)).add (k3.mul (2 * dI * (P.1 * P.2 * z)))).eq (by grind)
 have hd : Z ((xdE z pz : Int) - 2 * (z * pz)) := by
  have a1 := fadd_Z (fmul z pz) (fmul z pz)
  have a2 := fmul_Z z pz
  unfold xdE
  generalize (fadd (fmul z pz) (fmul z pz) : Int) = u at *
  generalize (fmul z pz : Int) = v at *
  exact (a1.add (a2.mul 2)).eq (by grind)
 have s1 := fsub_Z (xbE x y px py) (xaE x y px py)
 have s2 := fsub_Z (xdE z pz) (xcE t pt tw)
 have s3 := fadd_Z (xdE z pz) (xcE t pt tw)
 have s4 := fadd_Z (xbE x y px py) (xaE x y px py)
 refine ext_fin hP hQ hk hk ?_ ?_ ?_ ?_
 ·exact ((s1.add hb).sub ha).eq (by grind)
 ·exact ((s3.add hd).add hc).eq (by unfold den; grind)
 ·exact ((s2.add hd).sub hc).eq (by unfold den; grind)
 ·exact ((s4.add hb).add ha).eq (by grind)
def dhE (x y : Nat) : Nat := fadd (fmul x x) (fmul y y)
def deE (x y : Nat) : Nat := fsub (dhE x y) (fmul (fadd x y) (fadd x y))
def dgE (x y : Nat) : Nat := fsub (fmul x x) (fmul y y)
def dfE (x y z : Nat) : Nat := fadd (fadd (fmul z z) (fmul z z)) (dgE x y)
theorem ext_double {x y z t : Nat} {P : Pt} (hP : Val P) (h : Ext x y z t P) :
  Ext (fmul (deE x y) (dfE x y z)) (fmul (dgE x y) (dhE x y)) (fmul (dfE x y z) (dgE x y)) (fmul (deE x y) (dhE x y)) (addP P P) := by
 obtain ⟨h0, h1, h2, h3⟩ := h
 have hl : ¬ Z ((z : Int) * z) := Z.mul_ne h0 h0
 have hk : ¬ Z (-((z : Int) * z)) := fun hz => hl (hz.neg.eq (by omega))
 have hx := sq_of (x := P.1) (D := z) (A := x) (h1.neg.eq (by grind))
 have hy := sq_of (x := P.2) (D := z) (A := y) (h2.neg.eq (by grind))
 have hon := hP.2.2
 unfold On at hon
 have a1 := fmul_Z x x
 have a2 := fmul_Z y y
 have a3 := fmul_Z z z
 have hh : Z ((dhE x y : Int) - z * z * (P.2 * P.2 + P.1 * P.1)) := by
  have b := fadd_Z (fmul x x) (fmul y y)
  unfold dhE
  exact ((((b.add a1).add a2).sub hx).sub hy).eq (by grind)
 have hg : Z ((dgE x y : Int) - -((z : Int) * z) * den 1 P P) := by
  have b := fsub_Z (fmul x x) (fmul y y)
  unfold dgE
  exact (((((b.add a1).sub a2).sub hx).add hy).sub (hon.mul (z * z))).eq (by unfold den; grind)
 have hf : Z ((dfE x y z : Int) - z * z * den (-1) P P) := by
  have b := fadd_Z (fadd (fmul z z) (fmul z z)) (dgE x y)
  have c := fadd_Z (fmul z z) (fmul z z)
  unfold dfE
  exact (((b.add c).add (a3.mul 2)).add hg).eq (by unfold den; grind)
 have he : Z ((deE x y : Int) - -((z : Int) * z) * (P.1 * P.2 + P.2 * P.1)) := by
  have b := fsub_Z (dhE x y) (fmul (fadd x y) (fadd x y))
  have c := fmul_Z (fadd x y) (fadd x y)
  have d := fadd_Z x y
  have s : Z ((fadd x y : Int) - z * (P.1 + P.2)) := ((d.add h1).add h2).eq (by grind)
  unfold deE
  generalize (fmul (fadd x y) (fadd x y) : Int) = u at *
  generalize (fadd x y : Int) = v at *
  exact (((b.add hh).sub c).sub (s.mul (v + z * (P.1 + P.2)))).eq (by grind)
 exact ext_fin hP hP hk hl he hg hf hh
theorem ext_point {x y z t : Nat} {P : Pt} (hP : Val P) (h : Ext x y z t P) : fmul x (pw z 57896044618658097711785492504343953926634992332820282019728792003956564819947) = P.1 ∧ fmul y (pw z 57896044618658097711785492504343953926634992332820282019728792003956564819947) = P.2 := by
 obtain ⟨h0, h1, h2, h3⟩ := h
 have hi : Z (((pw z 57896044618658097711785492504343953926634992332820282019728792003956564819947 : Nat) : Int) * z - 1) := by have := inv_Z h0; unfold inv at this; exact this
 have m1 := fmul_Z x (pw z 57896044618658097711785492504343953926634992332820282019728792003956564819947)
 have m2 := fmul_Z y (pw z 57896044618658097711785492504343953926634992332820282019728792003956564819947)
 have l1 : fmul x (pw z 57896044618658097711785492504343953926634992332820282019728792003956564819947) < p25519 := Nat.mod_lt _ (by decide)
 have l2 : fmul y (pw z 57896044618658097711785492504343953926634992332820282019728792003956564819947) < p25519 := Nat.mod_lt _ (by decide)
 generalize pw z 57896044618658097711785492504343953926634992332820282019728792003956564819947 = i at *
 exact ⟨Z.small l1 hP.1 (((m1.add (h1.mul i)).add (hi.mul P.1)).eq (by grind)), Z.small l2 hP.2.1 (((m2.add (h2.mul i)).add (hi.mul P.2)).eq (by grind))⟩
theorem ext_of (P : Pt) : Ext P.1 P.2 1 (fmul P.1 P.2) P :=
 ⟨fun h => not_one (h.eq (by simp)), Z.zero.eq (by simp), Z.zero.eq (by simp), (fmul_Z P.1 P.2).eq (by simp)⟩
def baseP : Pt := (15112221349535400772501151409588531511454012693041857206046113283949847762202, 46316835694926478169428394003475163141307993866256225615783033603165251855960)
theorem base_val : Val baseP := ⟨by decide, by decide, by unfold On Z baseP dI; decide +kernel⟩
theorem tw_Z : Z (((fadd dN dN : Nat) : Int) - 2 * dI) := (fadd_Z dN dN).eq (by rw [show ((dN : Nat) : Int) = dI from rfl]; omega)
theorem fmul_big (a b : Nat) : fmul a b < 115792089237316195423570985008687907853269984665640564039457584007913129639936 := mod_big _
theorem fadd_big (a b : Nat) : fadd a b < 115792089237316195423570985008687907853269984665640564039457584007913129639936 := mod_big _
theorem fsub_big (a b : Nat) : fsub a b < 115792089237316195423570985008687907853269984665640564039457584007913129639936 := mod_big _
attribute [irreducible] fadd fsub fmul
end Go.Proofs.Ytmpjigghgedjbaa
namespace Go.Proofs.Ytmpjigghgedjbaa
open Go Go.N
def pack (x y z t : Nat) : Nat := x + 115792089237316195423570985008687907853269984665640564039457584007913129639936 * (y + 115792089237316195423570985008687907853269984665640564039457584007913129639936 * (z + 115792089237316195423570985008687907853269984665640564039457584007913129639936 * t))
def pk0 (s : Nat) : Nat := s % 115792089237316195423570985008687907853269984665640564039457584007913129639936
def pkr (s : Nat) : Nat := s / 115792089237316195423570985008687907853269984665640564039457584007913129639936
def dblN (s : Nat) : Nat := pack (fmul (deE (pk0 s) (pk0 (pkr s))) (dfE (pk0 s) (pk0 (pkr s)) (pk0 (pkr (pkr s))))) (fmul (dgE (pk0 s) (pk0 (pkr s))) (dhE (pk0 s) (pk0 (pkr s)))) (fmul (dfE (pk0 s) (pk0 (pkr s)) (pk0 (pkr (pkr s)))) (dgE (pk0 s) (pk0 (pkr s)))) (fmul (deE (pk0 s) (pk0 (pkr s))) (dhE (pk0 s) (pk0 (pkr s))))
def addB (x y z t px py pz pt tw : Nat) : Nat := pack (fmul (fsub (xbE x y px py) (xaE x y px py)) (fsub (xdE z pz) (xcE t pt tw))) (fmul (fadd (xdE z pz) (xcE t pt tw)) (fadd (xbE x y px py) (xaE x y px py)))
      (fmul (fsub (xdE z pz) (xcE t pt tw)) (fadd (xdE z pz) (xcE t pt tw))) (fmul (fsub (xbE x y px py) (xaE x y px py)) (fadd (xbE x y px py) (xaE x y px py)))
def baseT : Nat := fmul baseP.1 baseP.2
def addN (s : Nat) : Nat := addB (pk0 s) (pk0 (pkr s)) (pk0 (pkr (pkr s))) (pkr (pkr (pkr s))) baseP.1 baseP.2 1 baseT (fadd dN dN)
def goN (n m : Nat) : Nat → Nat
 | 0 => pack 0 1 1 0
 | k + 1 => bif Nat.beq (n / 2 ^ (m - (k + 1)) % 2) 1 then addN (dblN (goN n m k)) else dblN (goN n m k)
theorem pk0_pack {x y z t : Nat} (hx : x < 115792089237316195423570985008687907853269984665640564039457584007913129639936) : pk0 (pack x y z t) = x := by unfold pk0 pack; omega
theorem pkr_pack {x y z t : Nat} (hx : x < 115792089237316195423570985008687907853269984665640564039457584007913129639936) : pkr (pack x y z t) = y + 115792089237316195423570985008687907853269984665640564039457584007913129639936 * (z + 115792089237316195423570985008687907853269984665640564039457584007913129639936 * t) := by unfold pkr pack; omega
theorem pk_all {x y z t : Nat} (hx : x < 115792089237316195423570985008687907853269984665640564039457584007913129639936) (hy : y < 115792089237316195423570985008687907853269984665640564039457584007913129639936) (hz : z < 115792089237316195423570985008687907853269984665640564039457584007913129639936) : pk0 (pack x y z t) = x ∧ pk0 (pkr (pack x y z t)) = y ∧ pk0 (pkr (pkr (pack x y z t))) = z ∧ pkr (pkr (pkr (pack x y z t))) = t := by
 refine ⟨pk0_pack hx, ?_, ?_, ?_⟩
 ·rw [pkr_pack hx]; unfold pk0; omega
 ·rw [pkr_pack hx]; unfold pk0 pkr; omega
 ·rw [pkr_pack hx]; unfold pkr; omega
def ExtN (s : Nat) (P : Pt) : Prop := Ext (pk0 s) (pk0 (pkr s)) (pk0 (pkr (pkr s))) (pkr (pkr (pkr s))) P
theorem extN_pack {x y z t : Nat} {P : Pt} (hx : x < 115792089237316195423570985008687907853269984665640564039457584007913129639936) (hy : y < 115792089237316195423570985008687907853269984665640564039457584007913129639936) (hz : z < 115792089237316195423570985008687907853269984665640564039457584007913129639936) (h : Ext x y z t P) : ExtN (pack x y z t) P := by
 obtain ⟨h1, h2, h3, h4⟩ := pk_all (t := t) hx hy hz
 unfold ExtN
 rw [h1, h2, h3, h4]
 exact h
theorem extN_dbl {s : Nat} {P : Pt} (hP : Val P) (h : ExtN s P) : ExtN (dblN s) (addP P P) := extN_pack (fmul_big _ _) (fmul_big _ _) (fmul_big _ _) (ext_double hP h)
theorem extN_add {s : Nat} {P : Pt} (hP : Val P) (h : ExtN s P) : ExtN (addN s) (addP P baseP) := extN_pack (fmul_big _ _) (fmul_big _ _) (fmul_big _ _) (ext_add hP base_val h (ext_of baseP) tw_Z)
attribute [irreducible] ExtN dblN addN pack
theorem goN_ext {n m : Nat} (hn : n < 2 ^ m) : ∀ k, k ≤ m → ExtN (goN n m k) (mulP (n / 2 ^ (m - k)) baseP)
 | 0, _ => by
  rw [Nat.sub_zero, Nat.div_eq_of_lt hn]
  show ExtN (pack 0 1 1 0) _
  refine extN_pack (by decide) (by decide) (by decide) ⟨fun h => not_one (h.eq (by simp)), ?_, ?_, ?_⟩
  ·exact Z.zero.eq (by unfold mulP zeroP; simp)
  ·exact Z.zero.eq (by unfold mulP zeroP; simp)
  ·exact Z.zero.eq (by unfold mulP zeroP; simp)
 | k + 1, hk => by
  have ih := goN_ext hn k (by omega)
  have v := mul_val base_val (n / 2 ^ (m - k))
  have e : n / 2 ^ (m - (k + 1)) = n / 2 ^ (m - k) + n / 2 ^ (m - k) + n / 2 ^ (m - (k + 1)) % 2 := by
   rw [show m - k = (m - (k + 1)) + 1 by omega, Nat.pow_succ, ← Nat.div_div_eq_div_mul]; omega
  have d := extN_dbl v ih
  rw [← mul_add' base_val] at d
  unfold goN
  cases hb : Nat.beq (n / 2 ^ (m - (k + 1)) % 2) 1 with
  | true =>
   rw [Nat.eq_of_beq_eq_true hb] at e
   rw [e, cond_true]
   exact extN_add (mul_val base_val _) d
  | false =>
   have := Nat.ne_of_beq_eq_false hb
   rw [show n / 2 ^ (m - (k + 1)) % 2 = 0 by omega, Nat.add_zero] at e
   rw [e, cond_false]
   exact d
theorem go_L : (Nat.beq (pk0 (goN 7237005577332262213973186563042994240857116359379907606001950938285454250989 253 253)) 0 && Nat.beq (pk0 (pkr (goN 7237005577332262213973186563042994240857116359379907606001950938285454250989 253 253))) (pk0 (pkr (pkr (goN 7237005577332262213973186563042994240857116359379907606001950938285454250989 253 253))))) = true := by decide +kernel
attribute [irreducible] goN
theorem ext_zero {x y z t : Nat} {P : Pt} (hP : Val P) (h : Ext x y z t P) (hx : x = 0) (hy : y = z) : P = zeroP := by
 subst hx hy
 obtain ⟨h0, h1, h2, h3⟩ := h
 refine pt_same ⟨hP.1, hP.2.1⟩ ⟨by decide, by decide⟩ ?_ ?_
 ·have : Z ((P.1 : Int) * y) := h1.neg.eq (by simp)
  exact (this.prime.resolve_right h0).eq (by unfold zeroP; simp)
 ·have : Z ((P.2 - 1 : Int) * y) := h2.neg.eq (by grind)
  exact (this.prime.resolve_right h0).eq (by unfold zeroP; simp)
theorem base_order : mulP 7237005577332262213973186563042994240857116359379907606001950938285454250989 baseP = zeroP := by
 have h := goN_ext (n := 7237005577332262213973186563042994240857116359379907606001950938285454250989) (m := 253) (by decide) 253 (Nat.le_refl _)
 rw [Nat.sub_self, Nat.pow_zero, Nat.div_one] at h
 have g := go_L
 simp only [Bool.and_eq_true] at g
 unfold ExtN at h
 exact ext_zero (mul_val base_val _) h (Nat.eq_of_beq_eq_true g.1) (Nat.eq_of_beq_eq_true g.2)
theorem eight {P : Pt} (hP : Val P) : mulP 8 P = addP (addP (addP P P) (addP P P)) (addP (addP P P) (addP P P)) := by
 have h2 : addP P P = mulP 2 P := by show _ = addP (mulP 1 P) P; rw [mul_one' hP]
 rw [h2, ← mul_add' hP, ← mul_add' hP]
theorem below_ne (y : Int) : ¬ Z (dI * (y * y) + 1) := fun h => by
 have h1 : Z (iI * iI - dI * (y * y)) := (i_sq.sub h).eq (by grind)
 have h2 := d_nsq h1
 exact not_one ((h.sub (h2.mul (dI * y))).eq (by grind))
theorem on_iff {x y : Int} : On x y ↔ Z (x * x * (dI * (y * y) + 1) - (y * y - 1)) :=
 ⟨fun h => h.neg.eq (by grind), fun h => h.neg.eq (by grind)⟩
end Go.Proofs.Ytmpjigghgedjbaa
namespace Go.Proofs.Ytmpjigghgedjbaa
open Go Go.V
def bitsN (i : Nat) : Nat := if i % 2 = 0 then 26 else 25
theorem bitsN_le (i : Nat) : 25 ≤ bitsN i ∧ bitsN i ≤ 26 := by unfold bitsN; split <;> omega
theorem pow_bits (i : Nat) : 2 ^ bitsN i = 67108864 ∨ 2 ^ bitsN i = 33554432 := by unfold bitsN; split <;> simp
def gd (ws : List Nat) (i : Nat) : Nat := ws.getD i 0
abbrev I1 (x : Nat) : Value := .int .i64 (x : Int)
def wL (ws : List Nat) : List Value := ws.map I1
abbrev tenV (ws : List Nat) : Value := .agg (wL ws).toArray
theorem wL_at {ws : List Nat} {i : Nat} (h : i < ws.length) : (wL ws)[i]? = some (I1 (gd ws i)) := by
 unfold wL gd
 rw [List.getElem?_map, List.getElem?_eq_getElem h, List.getD_eq_getElem?_getD, List.getElem?_eq_getElem h]
 rfl
theorem wL_set (ws : List Nat) (i x : Nat) : (wL ws).set i (I1 x) = wL (ws.set i x) := by unfold wL; rw [List.map_set]
theorem wL_len (ws : List Nat) : (wL ws).length = ws.length := by unfold wL; simp
theorem wL_zero : wL [0, 0, 0, 0, 0, 0, 0, 0, 0, 0] = [I1 0, I1 0, I1 0, I1 0, I1 0, I1 0, I1 0, I1 0, I1 0, I1 0] := rfl
attribute [irreducible] wL
theorem gd_set {ws : List Nat} {i : Nat} (h : i < ws.length) (j x : Nat) : gd (ws.set i x) j = if j = i then x else gd ws j := by
 unfold gd
 rw [List.getD_eq_getElem?_getD, List.getD_eq_getElem?_getD, List.getElem?_set]
 by_cases hj : i = j
 ·subst hj; simp [h]
 ·rw [if_neg hj, if_neg (fun e => hj e.symm)]
def cstep (i : Nat) (ws : List Nat) : List Nat :=
 let c := gd ws i / 2 ^ bitsN i
 let ws1 := ws.set i (gd ws i - c * 2 ^ bitsN i)
 if i = 9 then ws1.set 0 (gd ws1 0 + 19 * c) else ws1.set (i + 1) (gd ws1 (i + 1) + c)
def cfrom : Nat → List Nat → List Nat
 | 0, ws => ws
 | k + 1, ws => cfrom k (cstep (9 - k) ws)
def carryL (ws : List Nat) : List Nat := cfrom 10 ws
theorem cfrom_succ {i : Nat} (h : i < 10) (ws : List Nat) : cfrom (10 - i) ws = cfrom (10 - (i + 1)) (cstep i ws) := by
 rw [show 10 - i = (9 - i) + 1 by omega, cfrom, show 9 - (9 - i) = i by omega, show 10 - (i + 1) = 9 - i by omega]
theorem divmod (a b : Nat) (hb : 0 < b) : ∃ c r, a / b = c ∧ a - c * b = r ∧ a = b * c + r ∧ r < b := by
 refine ⟨a / b, a - a / b * b, rfl, rfl, ?_, ?_⟩
 ·have := Nat.div_mul_le_self a b
  rw [Nat.mul_comm b]; omega
 ·have h1 := Nat.div_add_mod a b
  have h2 := Nat.mod_lt a hb
  rw [Nat.mul_comm] at h1; omega
theorem ten {ws : List Nat} (h : ws.length = 10) : ∃ w0 w1 w2 w3 w4 w5 w6 w7 w8 w9, ws = [w0, w1, w2, w3, w4, w5, w6, w7, w8, w9] := by
 match ws, h with
 | [a, b, c, d, e, f, g, i, j, k], _ => exact ⟨_, _, _, _, _, _, _, _, _, _, rfl⟩
theorem carry_spec (w0 w1 w2 w3 w4 w5 w6 w7 w8 w9 : Nat) : ∃ c0 c1 c2 c3 c4 c5 c6 c7 c8 c9 r0 r1 r2 r3 r4 r5 r6 r7 r8 r9,
  carryL [w0, w1, w2, w3, w4, w5, w6, w7, w8, w9] = [r0 + 19 * c9, r1, r2, r3, r4, r5, r6, r7, r8, r9] ∧
  (w0 = 67108864 * c0 + r0 ∧ w1 + c0 = 33554432 * c1 + r1 ∧ w2 + c1 = 67108864 * c2 + r2 ∧ w3 + c2 = 33554432 * c3 + r3 ∧ w4 + c3 = 67108864 * c4 + r4 ∧ w5 + c4 = 33554432 * c5 + r5 ∧ w6 + c5 = 67108864 * c6 + r6 ∧ w7 + c6 = 33554432 * c7 + r7 ∧ w8 + c7 = 67108864 * c8 + r8 ∧ w9 + c8 = 33554432 * c9 + r9) ∧
  (r0 < 67108864 ∧ r1 < 33554432 ∧ r2 < 67108864 ∧ r3 < 33554432 ∧ r4 < 67108864 ∧ r5 < 33554432 ∧ r6 < 67108864 ∧ r7 < 33554432 ∧ r8 < 67108864 ∧ r9 < 33554432) := by
 obtain ⟨c0, r0, d0, m0, e0, l0⟩ := divmod w0 67108864 (by decide)
 obtain ⟨c1, r1, d1, m1, e1, l1⟩ := divmod (w1 + c0) 33554432 (by decide)
 obtain ⟨c2, r2, d2, m2, e2, l2⟩ := divmod (w2 + c1) 67108864 (by decide)
 obtain ⟨c3, r3, d3, m3, e3, l3⟩ := divmod (w3 + c2) 33554432 (by decide)
 obtain ⟨c4, r4, d4, m4, e4, l4⟩ := divmod (w4 + c3) 67108864 (by decide)
 obtain ⟨c5, r5, d5, m5, e5, l5⟩ := divmod (w5 + c4) 33554432 (by decide)
 obtain ⟨c6, r6, d6, m6, e6, l6⟩ := divmod (w6 + c5) 67108864 (by decide)
 obtain ⟨c7, r7, d7, m7, e7, l7⟩ := divmod (w7 + c6) 33554432 (by decide)
 obtain ⟨c8, r8, d8, m8, e8, l8⟩ := divmod (w8 + c7) 67108864 (by decide)
 obtain ⟨c9, r9, d9, m9, e9, l9⟩ := divmod (w9 + c8) 33554432 (by decide)
 refine ⟨c0, c1, c2, c3, c4, c5, c6, c7, c8, c9, r0, r1, r2, r3, r4, r5, r6, r7, r8, r9, ?_, ⟨e0, e1, e2, e3, e4, e5, e6, e7, e8, e9⟩, ⟨l0, l1, l2, l3, l4, l5, l6, l7, l8, l9⟩⟩
 have s0 : cstep 0 [w0, w1, w2, w3, w4, w5, w6, w7, w8, w9] = [r0, w1 + c0, w2, w3, w4, w5, w6, w7, w8, w9] := by rw [← m0, ← d0]; rfl
 have s1 : cstep 1 [r0, w1 + c0, w2, w3, w4, w5, w6, w7, w8, w9] = [r0, r1, w2 + c1, w3, w4, w5, w6, w7, w8, w9] := by rw [← m1, ← d1]; rfl
 have s2 : cstep 2 [r0, r1, w2 + c1, w3, w4, w5, w6, w7, w8, w9] = [r0, r1, r2, w3 + c2, w4, w5, w6, w7, w8, w9] := by rw [← m2, ← d2]; rfl
 have s3 : cstep 3 [r0, r1, r2, w3 + c2, w4, w5, w6, w7, w8, w9] = [r0, r1, r2, r3, w4 + c3, w5, w6, w7, w8, w9] := by rw [← m3, ← d3]; rfl
 have s4 : cstep 4 [r0, r1, r2, r3, w4 + c3, w5, w6, w7, w8, w9] = [r0, r1, r2, r3, r4, w5 + c4, w6, w7, w8, w9] := by rw [← m4, ← d4]; rfl
 have s5 : cstep 5 [r0, r1, r2, r3, r4, w5 + c4, w6, w7, w8, w9] = [r0, r1, r2, r3, r4, r5, w6 + c5, w7, w8, w9] := by rw [← m5, ← d5]; rfl
 have s6 : cstep 6 [r0, r1, r2, r3, r4, r5, w6 + c5, w7, w8, w9] = [r0, r1, r2, r3, r4, r5, r6, w7 + c6, w8, w9] := by rw [← m6, ← d6]; rfl
 have s7 : cstep 7 [r0, r1, r2, r3, r4, r5, r6, w7 + c6, w8, w9] = [r0, r1, r2, r3, r4, r5, r6, r7, w8 + c7, w9] := by rw [← m7, ← d7]; rfl
 have s8 : cstep 8 [r0, r1, r2, r3, r4, r5, r6, r7, w8 + c7, w9] = [r0, r1, r2, r3, r4, r5, r6, r7, r8, w9 + c8] := by rw [← m8, ← d8]; rfl
 have s9 : cstep 9 [r0, r1, r2, r3, r4, r5, r6, r7, r8, w9 + c8] = [r0 + 19 * c9, r1, r2, r3, r4, r5, r6, r7, r8, r9] := by rw [← m9, ← d9]; rfl
 show cfrom 10 _ = _
 unfold cfrom; rw [s0]
 unfold cfrom; rw [s1]
 unfold cfrom; rw [s2]
 unfold cfrom; rw [s3]
 unfold cfrom; rw [s4]
 unfold cfrom; rw [s5]
 unfold cfrom; rw [s6]
 unfold cfrom; rw [s7]
 unfold cfrom; rw [s8]
 unfold cfrom; rw [s9]
 rfl
attribute [irreducible] carryL cfrom cstep
def V10 : List Nat → Nat
 | [w0, w1, w2, w3, w4, w5, w6, w7, w8, w9] => w0 + 67108864 * w1 + 2251799813685248 * w2 + 151115727451828646838272 * w3 + 5070602400912917605986812821504 * w4 + 340282366920938463463374607431768211456 * w5 + 11417981541647679048466287755595961091061972992 * w6 + 766247770432944429179173513575154591809369561091801088 * w7 + 25711008708143844408671393477458601640355247900524685364822016 * w8 + 1725436586697640946858688965569256363112777243042596638790631055949824 * w9
 | _ => 0
def Good : List Nat → Prop
 | [w0, w1, w2, w3, w4, w5, w6, w7, w8, w9] => w0 < 67109120 ∧ w1 < 33554432 ∧ w2 < 67108864 ∧ w3 < 33554432 ∧ w4 < 67108864 ∧ w5 < 33554432 ∧ w6 < 67108864 ∧ w7 < 33554432 ∧ w8 < 67108864 ∧ w9 < 33554432
 | _ => False
theorem Good.len {ws : List Nat} (h : Good ws) : ws.length = 10 := by
 unfold Good at h
 split at h
 ·rfl
 ·exact h.elim
theorem Good.gd {ws : List Nat} (h : Good ws) (i : Nat) : gd ws i < 67109120 := by
 obtain ⟨w0, w1, w2, w3, w4, w5, w6, w7, w8, w9, rfl⟩ := ten h.len
 unfold Good at h
 unfold Go.Proofs.Ytmpjigghgedjbaa.gd
 rcases i with _ | _ | _ | _ | _ | _ | _ | _ | _ | _ | i <;> simp <;> omega
theorem kb {w c b c' r B K : Nat} (h : w + c = b * c' + r) (hw : w < B) (hc : c ≤ K) (hB : B + K ≤ b * (K + 1)) : c' ≤ K := by
 have h1 : b * c' < b * (K + 1) := by omega
 have := Nat.lt_of_mul_lt_mul_left h1
 omega
theorem carry_len {ws : List Nat} (h : ws.length = 10) : (carryL ws).length = 10 := by
 obtain ⟨w0, w1, w2, w3, w4, w5, w6, w7, w8, w9, rfl⟩ := ten h
 obtain ⟨c0, c1, c2, c3, c4, c5, c6, c7, c8, c9, r0, r1, r2, r3, r4, r5, r6, r7, r8, r9, e, _⟩ := carry_spec w0 w1 w2 w3 w4 w5 w6 w7 w8 w9
 rw [e]; rfl
theorem carry_val {ws : List Nat} (h : ws.length = 10) : V10 (carryL ws) % p25519 = V10 ws % p25519 := by
 obtain ⟨w0, w1, w2, w3, w4, w5, w6, w7, w8, w9, rfl⟩ := ten h
 obtain ⟨c0, c1, c2, c3, c4, c5, c6, c7, c8, c9, r0, r1, r2, r3, r4, r5, r6, r7, r8, r9, e, ⟨e0, e1, e2, e3, e4, e5, e6, e7, e8, e9⟩, _⟩ := carry_spec w0 w1 w2 w3 w4 w5 w6 w7 w8 w9
 rw [e]
 have : V10 [w0, w1, w2, w3, w4, w5, w6, w7, w8, w9] = V10 [r0 + 19 * c9, r1, r2, r3, r4, r5, r6, r7, r8, r9] + p25519 * c9 := by
  simp only [V10]; unfold p25519; omega
 rw [this, Nat.add_mul_mod_self_left]
theorem carry_good {ws : List Nat} (h : ws.length = 10) (hb : ∀ i, gd ws i < 268435456) : Good (carryL ws) := by
 obtain ⟨w0, w1, w2, w3, w4, w5, w6, w7, w8, w9, rfl⟩ := ten h
 obtain ⟨c0, c1, c2, c3, c4, c5, c6, c7, c8, c9, r0, r1, r2, r3, r4, r5, r6, r7, r8, r9, e, ⟨e0, e1, e2, e3, e4, e5, e6, e7, e8, e9⟩, l0, l1, l2, l3, l4, l5, l6, l7, l8, l9⟩ := carry_spec w0 w1 w2 w3 w4 w5 w6 w7 w8 w9
 rw [e]
 have b0 : w0 < 268435456 := hb 0
 have b1 : w1 < 268435456 := hb 1
 have b2 : w2 < 268435456 := hb 2
 have b3 : w3 < 268435456 := hb 3
 have b4 : w4 < 268435456 := hb 4
 have b5 : w5 < 268435456 := hb 5
 have b6 : w6 < 268435456 := hb 6
 have b7 : w7 < 268435456 := hb 7
 have b8 : w8 < 268435456 := hb 8
 have b9 : w9 < 268435456 := hb 9
 have k0 : c0 ≤ 8 := kb (c := 0) (B := 268435456) e0 b0 (by decide) (by decide)
 have k1 : c1 ≤ 8 := kb e1 b1 k0 (by decide)
 have k2 : c2 ≤ 8 := kb e2 b2 k1 (by decide)
 have k3 : c3 ≤ 8 := kb e3 b3 k2 (by decide)
 have k4 : c4 ≤ 8 := kb e4 b4 k3 (by decide)
 have k5 : c5 ≤ 8 := kb e5 b5 k4 (by decide)
 have k6 : c6 ≤ 8 := kb e6 b6 k5 (by decide)
 have k7 : c7 ≤ 8 := kb e7 b7 k6 (by decide)
 have k8 : c8 ≤ 8 := kb e8 b8 k7 (by decide)
 have k9 : c9 ≤ 8 := kb e9 b9 k8 (by decide)
 clear e0 e1 e2 e3 e4 e5 e6 e7 e8 e9
 unfold Good
 refine ⟨by omega, l1, l2, l3, l4, l5, l6, l7, l8, l9⟩
theorem carry2_good {ws : List Nat} (h : ws.length = 10) (hb : ∀ i, gd ws i < 2305843009213693952) : (∀ i, gd (carryL ws) i < 4398046511104) ∧ Good (carryL (carryL ws)) := by
 obtain ⟨w0, w1, w2, w3, w4, w5, w6, w7, w8, w9, rfl⟩ := ten h
 obtain ⟨c0, c1, c2, c3, c4, c5, c6, c7, c8, c9, r0, r1, r2, r3, r4, r5, r6, r7, r8, r9, e, ⟨e0, e1, e2, e3, e4, e5, e6, e7, e8, e9⟩, l0, l1, l2, l3, l4, l5, l6, l7, l8, l9⟩ := carry_spec w0 w1 w2 w3 w4 w5 w6 w7 w8 w9
 rw [e]
 have b0 : w0 < 2305843009213693952 := hb 0
 have b1 : w1 < 2305843009213693952 := hb 1
 have b2 : w2 < 2305843009213693952 := hb 2
 have b3 : w3 < 2305843009213693952 := hb 3
 have b4 : w4 < 2305843009213693952 := hb 4
 have b5 : w5 < 2305843009213693952 := hb 5
 have b6 : w6 < 2305843009213693952 := hb 6
 have b7 : w7 < 2305843009213693952 := hb 7
 have b8 : w8 < 2305843009213693952 := hb 8
 have b9 : w9 < 2305843009213693952 := hb 9
 have k0 : c0 ≤ 137438953472 := kb (c := 0) (B := 2305843009213693952) e0 b0 (by decide) (by decide)
 have k1 : c1 ≤ 137438953472 := kb e1 b1 k0 (by decide)
 have k2 : c2 ≤ 137438953472 := kb e2 b2 k1 (by decide)
 have k3 : c3 ≤ 137438953472 := kb e3 b3 k2 (by decide)
 have k4 : c4 ≤ 137438953472 := kb e4 b4 k3 (by decide)
 have k5 : c5 ≤ 137438953472 := kb e5 b5 k4 (by decide)
 have k6 : c6 ≤ 137438953472 := kb e6 b6 k5 (by decide)
 have k7 : c7 ≤ 137438953472 := kb e7 b7 k6 (by decide)
 have k8 : c8 ≤ 137438953472 := kb e8 b8 k7 (by decide)
 have k9 : c9 ≤ 137438953472 := kb e9 b9 k8 (by decide)
 generalize hx : r0 + 19 * c9 = x
 have hx2 : x < 4398046511104 := by omega
 clear e0 e1 e2 e3 e4 e5 e6 e7 e8 e9 hx
 constructor
 ·intro i
  unfold gd
  rcases i with _ | _ | _ | _ | _ | _ | _ | _ | _ | _ | i <;> simp <;> omega
 ·obtain ⟨d0, d1, d2, d3, d4, d5, d6, d7, d8, d9, s0, s1, s2, s3, s4, s5, s6, s7, s8, s9, e', ⟨f0, f1, f2, f3, f4, f5, f6, f7, f8, f9⟩, m0, m1, m2, m3, m4, m5, m6, m7, m8, m9⟩ := carry_spec x r1 r2 r3 r4 r5 r6 r7 r8 r9
  rw [e']
  have q0 : d0 ≤ 65536 := by clear f1 f2 f3 f4 f5 f6 f7 f8 f9; omega
  have q1 : d1 ≤ 1 := by clear f2 f3 f4 f5 f6 f7 f8 f9; omega
  have q2 : d2 ≤ 1 := kb f2 l2 q1 (by decide)
  have q3 : d3 ≤ 1 := kb f3 l3 q2 (by decide)
  have q4 : d4 ≤ 1 := kb f4 l4 q3 (by decide)
  have q5 : d5 ≤ 1 := kb f5 l5 q4 (by decide)
  have q6 : d6 ≤ 1 := kb f6 l6 q5 (by decide)
  have q7 : d7 ≤ 1 := kb f7 l7 q6 (by decide)
  have q8 : d8 ≤ 1 := kb f8 l8 q7 (by decide)
  have q9 : d9 ≤ 1 := kb f9 l9 q8 (by decide)
  unfold Good
  clear f0 f1 f2 f3 f4 f5 f6 f7 f8 f9
  refine ⟨by omega, m1, m2, m3, m4, m5, m6, m7, m8, m9⟩
def Tight : List Nat → Prop
 | [w0, w1, w2, w3, w4, w5, w6, w7, w8, w9] => w0 < 67108864 ∧ w1 < 33554432 ∧ w2 < 67108864 ∧ w3 < 33554432 ∧ w4 < 67108864 ∧ w5 < 33554432 ∧ w6 < 67108864 ∧ w7 < 33554432 ∧ w8 < 67108864 ∧ w9 < 33554432
 | _ => False
theorem Tight.good {ws : List Nat} (h : Tight ws) : Good ws := by
 unfold Tight at h
 split at h
 ·unfold Good; exact ⟨by omega, h.2⟩
 ·exact h.elim
theorem kz {w c b c' r : Nat} (h : w + c = b * c' + r) (hc : c = 0) (hw : w < b) : c' = 0 := by
 subst hc
 rcases Nat.eq_zero_or_pos c' with h1 | h1
 ·exact h1
 ·have := Nat.mul_le_mul_left b h1
  omega
theorem carry_tight {ws : List Nat} (h : Tight ws) : carryL ws = ws := by
 obtain ⟨w0, w1, w2, w3, w4, w5, w6, w7, w8, w9, rfl⟩ := ten h.good.len
 unfold Tight at h
 obtain ⟨c0, c1, c2, c3, c4, c5, c6, c7, c8, c9, r0, r1, r2, r3, r4, r5, r6, r7, r8, r9, e, ⟨e0, e1, e2, e3, e4, e5, e6, e7, e8, e9⟩, l0, l1, l2, l3, l4, l5, l6, l7, l8, l9⟩ := carry_spec w0 w1 w2 w3 w4 w5 w6 w7 w8 w9
 obtain ⟨h0, h1, h2, h3, h4, h5, h6, h7, h8, h9⟩ := h
 have k0 : c0 = 0 := kz (c := 0) e0 rfl h0
 have k1 : c1 = 0 := kz e1 k0 h1
 have k2 : c2 = 0 := kz e2 k1 h2
 have k3 : c3 = 0 := kz e3 k2 h3
 have k4 : c4 = 0 := kz e4 k3 h4
 have k5 : c5 = 0 := kz e5 k4 h5
 have k6 : c6 = 0 := kz e6 k5 h6
 have k7 : c7 = 0 := kz e7 k6 h7
 have k8 : c8 = 0 := kz e8 k7 h8
 have k9 : c9 = 0 := kz e9 k8 h9
 subst k0 k1 k2 k3 k4 k5 k6 k7 k8 k9
 rw [e]
 simp only [List.cons.injEq, and_true]
 refine ⟨by omega, by omega, by omega, by omega, by omega, by omega, by omega, by omega, by omega, by omega⟩
theorem good_tight {ws : List Nat} (h : Good ws) : Tight (carryL ws) := by
 obtain ⟨w0, w1, w2, w3, w4, w5, w6, w7, w8, w9, rfl⟩ := ten h.len
 unfold Good at h
 obtain ⟨c0, c1, c2, c3, c4, c5, c6, c7, c8, c9, r0, r1, r2, r3, r4, r5, r6, r7, r8, r9, e, ⟨e0, e1, e2, e3, e4, e5, e6, e7, e8, e9⟩, l0, l1, l2, l3, l4, l5, l6, l7, l8, l9⟩ := carry_spec w0 w1 w2 w3 w4 w5 w6 w7 w8 w9
 obtain ⟨h0, h1, h2, h3, h4, h5, h6, h7, h8, h9⟩ := h
 rw [e]
 unfold Tight
 refine ⟨?_, l1, l2, l3, l4, l5, l6, l7, l8, l9⟩
 rcases Nat.eq_zero_or_pos c0 with k | k
 ·have k1 : c1 = 0 := kz e1 k h1
  have k2 : c2 = 0 := kz e2 k1 h2
  have k3 : c3 = 0 := kz e3 k2 h3
  have k4 : c4 = 0 := kz e4 k3 h4
  have k5 : c5 = 0 := kz e5 k4 h5
  have k6 : c6 = 0 := kz e6 k5 h6
  have k7 : c7 = 0 := kz e7 k6 h7
  have k8 : c8 = 0 := kz e8 k7 h8
  have k9 : c9 = 0 := kz e9 k8 h9
  subst k1 k2 k3 k4 k5 k6 k7 k8 k9
  subst k
  clear e1 e2 e3 e4 e5 e6 e7 e8 e9
  omega
 ·have q0 : c0 ≤ 1 := by clear e1 e2 e3 e4 e5 e6 e7 e8 e9; omega
  have q1 : c1 ≤ 1 := kb e1 h1 q0 (by decide)
  have q2 : c2 ≤ 1 := kb e2 h2 q1 (by decide)
  have q3 : c3 ≤ 1 := kb e3 h3 q2 (by decide)
  have q4 : c4 ≤ 1 := kb e4 h4 q3 (by decide)
  have q5 : c5 ≤ 1 := kb e5 h5 q4 (by decide)
  have q6 : c6 ≤ 1 := kb e6 h6 q5 (by decide)
  have q7 : c7 ≤ 1 := kb e7 h7 q6 (by decide)
  have q8 : c8 ≤ 1 := kb e8 h8 q7 (by decide)
  have q9 : c9 ≤ 1 := kb e9 h9 q8 (by decide)
  clear e1 e2 e3 e4 e5 e6 e7 e8 e9
  omega
theorem carry4 {ws : List Nat} (h : Good ws) : Tight (carryL (carryL (carryL (carryL ws)))) ∧ V10 (carryL (carryL (carryL (carryL ws)))) % p25519 = V10 ws % p25519 := by
 have h1 := good_tight h
 rw [carry_tight h1, carry_tight h1, carry_tight h1]
 exact ⟨h1, carry_val h.len⟩
theorem tight_lt {ws : List Nat} (h : Tight ws) : V10 ws < 57896044618658097711785492504343953926634992332820282019728792003956564819968 := by
 obtain ⟨w0, w1, w2, w3, w4, w5, w6, w7, w8, w9, rfl⟩ := ten h.good.len
 unfold Tight at h
 simp only [V10]
 omega
end Go.Proofs.Ytmpjigghgedjbaa
