import Derived.Test.YtmpjigghgedjbaaDa
set_option linter.unusedSimpArgs false
set_option linter.unusedVariables false
set_option linter.unusedSectionVars false
set_option maxHeartbeats 16000000
set_option maxRecDepth 100000
namespace Go.N
def IsP (p : Nat) : Prop := 2 ≤ p ∧ ∀ d, d ∣ p → d = 1 ∨ d = p
theorem IsP.cop {p a : Nat} (h : IsP p) (ha : ¬ p ∣ a) : Nat.gcd p a = 1 := by
 rcases h.2 _ (Nat.gcd_dvd_left p a) with h1 | h1
 ·exact h1
 ·exact absurd (h1 ▸ Nat.gcd_dvd_right p a) ha
theorem IsP.euclid {p a b : Nat} (h : IsP p) (hab : p ∣ a * b) : p ∣ a ∨ p ∣ b := by
 by_cases ha : p ∣ a
 ·exact Or.inl ha
 ·exact Or.inr (Nat.Coprime.dvd_of_dvd_mul_left (h.cop ha) hab)
theorem IsP.pow {p a : Nat} (h : IsP p) : ∀ {n : Nat}, p ∣ a ^ n → p ∣ a
 | 0, hd => by rw [Nat.pow_zero] at hd; have := Nat.le_of_dvd (by omega) hd; have := h.1; omega
 | n + 1, hd => by
  rw [Nat.pow_succ] at hd
  rcases h.euclid hd with h1 | h1
  ·exact h.pow h1
  ·exact h1
def ch : Nat → Nat → Nat
 | _, 0 => 1
 | 0, _ + 1 => 0
 | n + 1, k + 1 => ch n k + ch n (k + 1)
theorem ch_zero (n : Nat) : ch n 0 = 1 := by cases n <;> rfl
theorem ch_big : ∀ {n k : Nat}, n < k → ch n k = 0
 | 0, k + 1, _ => rfl
 | n + 1, k + 1, h => by rw [ch, ch_big (n := n) (by omega), ch_big (n := n) (by omega)]
theorem ch_self : ∀ (n : Nat), ch n n = 1
 | 0 => rfl
 | n + 1 => by rw [ch, ch_self n, ch_big (Nat.lt_succ_self n)]
theorem absorb : ∀ (n k : Nat), (k + 1) * ch (n + 1) (k + 1) = (n + 1) * ch n k
 | 0, 0 => rfl
 | 0, k + 1 => by rw [ch_big (n := 0 + 1) (by omega), ch_big (n := 0) (by omega)]; simp
 | n + 1, 0 => by
  have := absorb n 0
  rw [ch_zero] at this
  show (0 + 1) * (ch (n + 1) 0 + ch (n + 1) (0 + 1)) = _
  rw [ch_zero]
  omega
 | n + 1, k + 1 => by
  have h1 := absorb n k
  have h2 := absorb n (k + 1)
  have e1 : ch (n + 1 + 1) (k + 1 + 1) = ch (n + 1) (k + 1) + ch (n + 1) (k + 1 + 1) := rfl
  have e2 : ch (n + 1) (k + 1) = ch n k + ch n (k + 1) := rfl
  rw [e1]
  have e3 : (k + 1 + 1) * (ch (n + 1) (k + 1) + ch (n + 1) (k + 1 + 1)) = (k + 1) * ch (n + 1) (k + 1) + ch (n + 1) (k + 1) + (k + 1 + 1) * ch (n + 1) (k + 1 + 1) := by grind
  rw [e3, h1, h2]
  have e4 : (n + 1) * ch n k + (n + 1) * ch n (k + 1) = (n + 1) * ch (n + 1) (k + 1) := by rw [e2]; grind
  grind
def bs (a n : Nat) : Nat → Nat
 | 0 => 0
 | m + 1 => bs a n m + ch n m * a ^ m
theorem bs_succ (a n : Nat) : ∀ m, bs a (n + 1) (m + 1) = bs a n (m + 1) + a * bs a n m
 | 0 => by simp [bs, ch_zero]
 | m + 1 => by
  have ih := bs_succ a n m
  have e1 : bs a (n + 1) (m + 1 + 1) = bs a (n + 1) (m + 1) + ch (n + 1) (m + 1) * a ^ (m + 1) := rfl
  have e2 : bs a n (m + 1 + 1) = bs a n (m + 1) + ch n (m + 1) * a ^ (m + 1) := rfl
  have e3 : bs a n (m + 1) = bs a n m + ch n m * a ^ m := rfl
  have e4 : ch (n + 1) (m + 1) = ch n m + ch n (m + 1) := rfl
  rw [e1, ih, e2, e4]
  have e5 : a * bs a n (m + 1) = a * bs a n m + ch n m * a ^ (m + 1) := by rw [e3, Nat.pow_succ]; grind
  grind
theorem bs_all (a : Nat) : ∀ n, (a + 1) ^ n = bs a n (n + 1)
 | 0 => by simp [bs, ch]
 | n + 1 => by
  rw [bs_succ, Nat.pow_succ, bs_all a n]
  have e1 : bs a n (n + 1 + 1) = bs a n (n + 1) + ch n (n + 1) * a ^ (n + 1) := rfl
  rw [e1, ch_big (Nat.lt_succ_self n)]
  grind
theorem IsP.ch_dvd {p : Nat} (h : IsP p) {k : Nat} (hk : k + 1 < p) : p ∣ ch p (k + 1) := by
 obtain ⟨n, rfl⟩ : ∃ n, p = n + 1 := ⟨p - 1, by omega⟩
 have : n + 1 ∣ (k + 1) * ch (n + 1) (k + 1) := ⟨ch n k, absorb n k⟩
 rcases h.euclid this with h1 | h1
 ·have := Nat.le_of_dvd (by omega) h1; omega
 ·exact h1
theorem IsP.bs_mod {p : Nat} (h : IsP p) (a : Nat) : ∀ m, m + 1 ≤ p → bs a p (m + 1) % p = 1 % p
 | 0, _ => by simp [bs, ch_zero]
 | m + 1, hm => by
  have ih := h.bs_mod a m (by omega)
  obtain ⟨c, hc⟩ := h.ch_dvd (k := m) (by omega)
  have e2 : bs a p (m + 1 + 1) = bs a p (m + 1) + ch p (m + 1) * a ^ (m + 1) := rfl
  rw [e2, hc, Nat.mul_assoc, Nat.add_mul_mod_self_left, ih]
theorem IsP.fresh {p : Nat} (h : IsP p) (a : Nat) : (a + 1) ^ p % p = (a ^ p + 1) % p := by
 have hp := h.1
 obtain ⟨n, rfl⟩ : ∃ n, p = n + 1 := ⟨p - 1, by omega⟩
 have e2 : bs a (n + 1) (n + 1 + 1) = bs a (n + 1) (n + 1) + ch (n + 1) (n + 1) * a ^ (n + 1) := rfl
 rw [bs_all, e2, ch_self, Nat.one_mul, Nat.add_mod, h.bs_mod a n (by omega), ← Nat.add_mod, Nat.add_comm]
theorem IsP.flt {p : Nat} (h : IsP p) : ∀ a, a ^ p % p = a % p
 | 0 => by have := h.1; rw [Nat.zero_pow (by omega)]
 | a + 1 => by rw [h.fresh, Nat.add_mod, h.flt a, ← Nat.add_mod]
theorem IsP.fermat {p : Nat} (h : IsP p) {a : Nat} (ha : ¬ p ∣ a) : a ^ (p - 1) % p = 1 := by
 have hp := h.1
 have h1 := h.flt a
 obtain ⟨n, rfl⟩ : ∃ n, p = n + 1 := ⟨p - 1, by omega⟩
 simp only [Nat.add_sub_cancel]
 have hpos : 0 < a := Nat.pos_of_ne_zero fun h0 => ha (h0 ▸ Nat.dvd_zero _)
 have hge : 1 ≤ a ^ n := Nat.pow_pos hpos
 have h2 : n + 1 ∣ a * (a ^ n - 1) := by
  have e : a * (a ^ n - 1) = a ^ (n + 1) - a := by rw [Nat.mul_sub, Nat.mul_one, Nat.pow_succ, Nat.mul_comm]
  rw [e]
  exact Nat.dvd_of_mod_eq_zero (Nat.sub_mod_eq_zero_of_mod_eq h1)
 rcases h.euclid h2 with h3 | h3
 ·exact absurd h3 ha
 ·obtain ⟨c, hc⟩ := h3
  have e : a ^ n = 1 + (n + 1) * c := by omega
  rw [e, Nat.add_mul_mod_self_left, Nat.mod_eq_of_lt (by omega)]
theorem pow_gcd {r b : Nat} (hr : 2 ≤ r) : ∀ (s m n : Nat), m + n ≤ s → b ^ m % r = 1 → b ^ n % r = 1 → b ^ Nat.gcd m n % r = 1
 | 0, m, n, h, h1, h2 => by
  obtain ⟨rfl, rfl⟩ : m = 0 ∧ n = 0 := by omega
  simpa using h1
 | s + 1, m, n, h, h1, h2 => by
  by_cases hm : m = 0
  ·subst hm; rw [Nat.gcd_zero_left]; exact h2
  by_cases hn : n = 0
  ·subst hn; rw [Nat.gcd_zero_right]; exact h1
  rcases Nat.le_total m n with hle | hle
  ·have e : b ^ (n - m) % r = 1 := by
    have e1 : b ^ n = b ^ (n - m) * b ^ m := by rw [← Nat.pow_add, Nat.sub_add_cancel hle]
    rw [e1, Nat.mul_mod, h1, Nat.mul_one, Nat.mod_mod] at h2
    exact h2
   have := pow_gcd hr s m (n - m) (by omega) h1 e
   rwa [Nat.gcd_sub_self_right hle] at this
  ·have e : b ^ (m - n) % r = 1 := by
    have e1 : b ^ m = b ^ (m - n) * b ^ n := by rw [← Nat.pow_add, Nat.sub_add_cancel hle]
    rw [e1, Nat.mul_mod, h2, Nat.mul_one, Nat.mod_mod] at h1
    exact h1
   have := pow_gcd hr s (m - n) n (by omega) e h2
   rwa [Nat.gcd_sub_self_left hle] at this
theorem mod_of_dvd {a c r n : Nat} (hrn : r ∣ n) (hr : c < r) (h : a % n = c) : a % r = c := by
 obtain ⟨k, rfl⟩ := hrn
 have := Nat.mod_mul_right_mod a r k
 rw [h, Nat.mod_eq_of_lt hr] at this
 exact this.symm
theorem factor {n q k a u : Nat} (hq : IsP q) (hn : n = q * k + 1) (h1 : a ^ (n - 1) % n = 1) (h2 : (a ^ k % n + (n - 1)) * u % n = 1) {r : Nat} (hr : IsP r) (hrn : r ∣ n) : q ∣ r - 1 := by
 have hr2 := hr.1
 have hn2 : n - 1 = k * q := by rw [hn, Nat.mul_comm]; rfl
 have hb1 : (a ^ k) ^ q % r = 1 := by
  rw [← Nat.pow_mul, ← hn2]
  exact mod_of_dvd hrn (by omega) h1
 have hbn : ¬ r ∣ a ^ k := by
  intro h
  have hz : a ^ k % r = 0 := Nat.mod_eq_zero_of_dvd h
  rw [Nat.pow_mod, hz, Nat.zero_pow (by have := hq.1; omega)] at hb1
  rw [Nat.zero_mod] at hb1
  omega
 have hb2 := hr.fermat hbn
 rcases hq.2 _ (Nat.gcd_dvd_left q (r - 1)) with hg | hg
 ·exfalso
  have hone := pow_gcd hr2 _ q (r - 1) (Nat.le_refl _) hb1 hb2
  rw [hg, Nat.pow_one] at hone
  have h3 := mod_of_dvd hrn (by omega) h2
  have hz : (a ^ k % n + (n - 1)) % r = 0 := by
   have hpos : 0 < n := by omega
   have e1 : a ^ k % n % r = 1 := by
    obtain ⟨c, rfl⟩ := hrn
    rw [Nat.mod_mul_right_mod]
    exact hone
   have e2 : (a ^ k % n + (n - 1)) % r = (1 + (n - 1)) % r := by rw [← Nat.mod_add_mod, e1]
   rw [e2, Nat.add_sub_cancel' hpos]
   exact Nat.mod_eq_zero_of_dvd hrn
  rw [Nat.mul_mod, hz, Nat.zero_mul, Nat.zero_mod] at h3
  omega
 ·exact hg ▸ Nat.gcd_dvd_right q (r - 1)
theorem has_prime : ∀ (n : Nat), 2 ≤ n → ∃ r, IsP r ∧ r ∣ n := by
 intro n
 induction n using Nat.strongRecOn with
 | _ n ih =>
  intro hn
  by_cases h : IsP n
  ·exact ⟨n, h, Nat.dvd_refl _⟩
  ·have : ∃ d, d ∣ n ∧ d ≠ 1 ∧ d ≠ n := by
    apply Classical.byContradiction
    intro hno
    exact h ⟨hn, fun d hd => by
     by_cases h1 : d = 1
     ·exact Or.inl h1
     ·by_cases h2 : d = n
      ·exact Or.inr h2
      ·exact absurd ⟨d, hd, h1, h2⟩ hno⟩
   obtain ⟨d, hd, h1, h2⟩ := this
   have hle := Nat.le_of_dvd (by omega) hd
   have h0 : d ≠ 0 := fun h0 => by subst h0; have := Nat.eq_zero_of_zero_dvd hd; omega
   obtain ⟨r, hr, hrd⟩ := ih d (by omega) (by omega)
   exact ⟨r, hr, Nat.dvd_trans hrd hd⟩
theorem prime_of {n F : Nat} (hn : 2 ≤ n) (hF : n < F * F) (h : ∀ r, IsP r → r ∣ n → F ∣ r - 1) : IsP n := by
 refine ⟨hn, fun d hd => ?_⟩
 apply Classical.byContradiction
 intro hno
 have hd1 : d ≠ 1 := fun h => hno (Or.inl h)
 have hdn : d ≠ n := fun h => hno (Or.inr h)
 have big : ∀ x, 2 ≤ x → x ∣ n → F < x := by
  intro x hx hxn
  obtain ⟨r, hr, hrx⟩ := has_prime x hx
  have h1 := Nat.le_of_dvd (by have := hr.1; omega) (h r hr (Nat.dvd_trans hrx hxn))
  have h2 := Nat.le_of_dvd (by omega) hrx
  have := hr.1
  omega
 obtain ⟨c, hc⟩ := hd
 have hd0 : d ≠ 0 := fun h => by subst h; omega
 have hc0 : c ≠ 0 := fun h => by subst h; omega
 have hc1 : c ≠ 1 := fun h => by subst h; omega
 have b1 := big d (by omega) ⟨c, hc⟩
 have b2 := big c (by omega) ⟨d, by rw [hc, Nat.mul_comm]⟩
 have := Nat.mul_lt_mul'' b1 b2
 omega
theorem dvd_both {q1 q2 m : Nat} (h1 : IsP q1) (h2 : IsP q2) (hne : q1 ≠ q2) (d1 : q1 ∣ m) (d2 : q2 ∣ m) : q1 * q2 ∣ m := by
 have hc : Nat.Coprime q1 q2 := h1.cop fun h => by
  rcases h2.2 _ h with h | h
  ·have := h1.1; omega
  ·exact hne h
 exact Nat.Coprime.mul_dvd_of_dvd_of_dvd hc d1 d2
def pm (n : Nat) : Nat → Nat → Nat → Nat
 | 0, _, _ => 1 % n
 | f + 1, a, e => if Nat.beq (e % 2) 1 then pm n f (a * a % n) (e / 2) * a % n else pm n f (a * a % n) (e / 2)
theorem pm_eq (n : Nat) : ∀ (f a e : Nat), e < 2 ^ f → pm n f a e = a ^ e % n
 | 0, a, e, h => by
  have : e = 0 := by simpa using h
  subst this
  simp [pm]
 | f + 1, a, e, h => by
  have ih := pm_eq n f (a * a % n) (e / 2) (by rw [Nat.pow_succ] at h; omega)
  have e0 : (a * a % n) ^ (e / 2) % n = (a * a) ^ (e / 2) % n := by rw [← Nat.pow_mod]
  have e1 : (a * a) ^ (e / 2) = a ^ (2 * (e / 2)) := by rw [Nat.pow_mul, Nat.pow_two]
  unfold pm
  rw [ih, e0, e1]
  cases hb : Nat.beq (e % 2) 1 with
  | true =>
   have h2 := Nat.eq_of_beq_eq_true hb
   simp only [if_true]
   have e3 : e = 2 * (e / 2) + 1 := by omega
   rw [← Nat.mod_mul_mod, Nat.mod_mod, Nat.mod_mul_mod, ← Nat.pow_succ]
   show a ^ (2 * (e / 2) + 1) % n = _
   rw [← e3]
  | false =>
   have h2 := Nat.ne_of_beq_eq_false hb
   simp only [Bool.false_eq_true, if_false]
   have e3 : e = 2 * (e / 2) := by omega
   rw [← e3]
def trial (n : Nat) : Nat → Nat → Bool
 | 0, _ => true
 | k + 1, d => !(Nat.beq (n % d) 0) && trial n k (d + 2)
theorem trial_at {n : Nat} : ∀ {k d : Nat}, trial n k d = true → ∀ x, d ≤ x → x < d + 2 * k → x % 2 = d % 2 → ¬ x ∣ n
 | 0, d, _, x, h1, h2, _ => by omega
 | k + 1, d, h, x, h1, h2, h3 => by
  simp only [trial, Bool.and_eq_true, Bool.not_eq_true'] at h
  by_cases hx : x = d
  ·subst hx
   intro hd
   exact Nat.ne_of_beq_eq_false h.1 (Nat.mod_eq_zero_of_dvd hd)
  ·exact trial_at h.2 x (by omega) (by omega) (by omega)
theorem prime_small {n k : Nat} (hn : 2 ≤ n) (h2 : n % 2 = 1) (ht : trial n k 3 = true) (hk : n < (3 + 2 * k) * (3 + 2 * k)) : IsP n := by
 have key : ∀ d c, n = d * c → d ≤ c → 2 ≤ d → False := by
  intro d c h h1 h3
  have hdd : d * d ≤ n := by rw [h]; exact Nat.mul_le_mul_left d h1
  have hlt : d < 3 + 2 * k := by
   rcases Nat.lt_or_ge d (3 + 2 * k) with h4 | h4
   ·exact h4
   ·have := Nat.mul_le_mul h4 h4; omega
  have hodd : d % 2 = 1 := by
   rcases Nat.mod_two_eq_zero_or_one d with h4 | h4
   ·rw [h, Nat.mul_mod, h4, Nat.zero_mul] at h2; simp at h2
   ·exact h4
  exact trial_at ht d (by omega) hlt (by omega) ⟨c, h⟩
 refine ⟨hn, fun d hd => ?_⟩
 apply Classical.byContradiction
 intro hno
 have hd1 : d ≠ 1 := fun h => hno (Or.inl h)
 have hdn : d ≠ n := fun h => hno (Or.inr h)
 obtain ⟨c, hc⟩ := hd
 have hd0 : d ≠ 0 := fun h => by subst h; omega
 have hc0 : c ≠ 0 := fun h => by subst h; omega
 have hc1 : c ≠ 1 := fun h => by subst h; omega
 rcases Nat.le_total d c with h | h
 ·exact key d c hc h (by omega)
 ·exact key c d (by rw [hc, Nat.mul_comm]) h (by omega)
theorem step2 {n q1 q2 k1 k2 a1 a2 u1 u2 f : Nat} (h1 : IsP q1) (h2 : IsP q2) (hne : Nat.beq q1 q2 = false) (hf : Nat.blt n (2 ^ f) = true) (hF : Nat.blt n (q1 * q2 * (q1 * q2)) = true) (hn : Nat.ble 2 n = true)
  (e1 : Nat.beq n (q1 * k1 + 1) = true) (e2 : Nat.beq n (q2 * k2 + 1) = true)
  (p1 : Nat.beq (pm n f a1 (n - 1)) 1 = true) (p2 : Nat.beq (pm n f a2 (n - 1)) 1 = true)
  (g1 : Nat.beq ((pm n f a1 k1 + (n - 1)) * u1 % n) 1 = true) (g2 : Nat.beq ((pm n f a2 k2 + (n - 1)) * u2 % n) 1 = true) : IsP n := by
 have hn := Nat.le_of_ble_eq_true hn
 have hf : n < 2 ^ f := Nat.le_of_ble_eq_true hf
 have hF : n < q1 * q2 * (q1 * q2) := Nat.le_of_ble_eq_true hF
 have e1 := Nat.eq_of_beq_eq_true e1
 have e2 := Nat.eq_of_beq_eq_true e2
 have p1 := Nat.eq_of_beq_eq_true p1
 have p2 := Nat.eq_of_beq_eq_true p2
 have g1 := Nat.eq_of_beq_eq_true g1
 have g2 := Nat.eq_of_beq_eq_true g2
 have l1 : k1 < 2 ^ f := by
  have := h1.1
  have : k1 ≤ q1 * k1 := Nat.le_mul_of_pos_left _ (by omega)
  omega
 have l2 : k2 < 2 ^ f := by
  have := h2.1
  have : k2 ≤ q2 * k2 := Nat.le_mul_of_pos_left _ (by omega)
  omega
 rw [pm_eq _ _ _ _ (by omega)] at p1 p2
 rw [pm_eq _ _ _ _ l1] at g1
 rw [pm_eq _ _ _ _ l2] at g2
 exact prime_of hn hF fun r hr hrn => dvd_both h1 h2 (Nat.ne_of_beq_eq_false hne) (factor h1 e1 p1 g1 hr hrn) (factor h2 e2 p2 g2 hr hrn)
theorem step1 {n q1 k1 a1 u1 f : Nat} (h1 : IsP q1) (hf : Nat.blt n (2 ^ f) = true) (hF : Nat.blt n (q1 * q1) = true) (hn : Nat.ble 2 n = true)
  (e1 : Nat.beq n (q1 * k1 + 1) = true)
  (p1 : Nat.beq (pm n f a1 (n - 1)) 1 = true)
  (g1 : Nat.beq ((pm n f a1 k1 + (n - 1)) * u1 % n) 1 = true) : IsP n := by
 have hn := Nat.le_of_ble_eq_true hn
 have hf : n < 2 ^ f := Nat.le_of_ble_eq_true hf
 have hF : n < q1 * q1 := Nat.le_of_ble_eq_true hF
 have e1 := Nat.eq_of_beq_eq_true e1
 have p1 := Nat.eq_of_beq_eq_true p1
 have g1 := Nat.eq_of_beq_eq_true g1
 have l1 : k1 < 2 ^ f := by
  have := h1.1
  have : k1 ≤ q1 * k1 := Nat.le_mul_of_pos_left _ (by omega)
  omega
 rw [pm_eq _ _ _ _ (by omega)] at p1
 rw [pm_eq _ _ _ _ l1] at g1
 exact prime_of hn hF fun r hr hrn => factor h1 e1 p1 g1 hr hrn
theorem prime_a : IsP 8574133 := prime_small (k := 1464) (by omega) (by omega) (by kernel_rfl) (by omega)
theorem prime_b : IsP 127 := prime_small (k := 6) (by omega) (by omega) (by kernel_rfl) (by omega)
theorem prime_c : IsP 75707 := prime_small (k := 138) (by omega) (by omega) (by kernel_rfl) (by omega)
theorem prime_d : IsP 57467 := prime_small (k := 120) (by omega) (by omega) (by kernel_rfl) (by omega)
theorem prime_e : IsP 1919519569386763 := step2 (k1 := 223873314) (k2 := 15114327318006) (a1 := 2) (a2 := 2) (u1 := 1290547218147893) (u2 := 1870148777187772) (f := 51) prime_a prime_b (by kernel_rfl) (by kernel_rfl) (by kernel_rfl) (by kernel_rfl) (by kernel_rfl) (by kernel_rfl) (by kernel_rfl) (by kernel_rfl) (by kernel_rfl) (by kernel_rfl)
theorem prime_f : IsP 75445702479781427272750846543864801 := step2 (k1 := 39304471641247389600) (k2 := 996548568557483816196003626400) (a1 := 2) (a2 := 2) (u1 := 74602835786463724888147869570305675) (u2 := 8986369574106813140303762220009459) (f := 116) prime_e prime_c (by kernel_rfl) (by kernel_rfl) (by kernel_rfl) (by kernel_rfl) (by kernel_rfl) (by kernel_rfl) (by kernel_rfl) (by kernel_rfl) (by kernel_rfl) (by kernel_rfl)
theorem prime_g : IsP 74058212732561358302231226437062788676166966415465897661863160754340907 := step2 (k1 := 981609426360740691344999861639072106) (k2 := 1288708523719027586305727224964984924846728842909250485702458119518) (a1 := 2) (a2 := 2) (u1 := 70463328703800545008217672123162676565183935400628861884889913886334520) (u2 := 14824715564668784131283553449357537219684777824927388968274202049879618) (f := 236) prime_f prime_d (by kernel_rfl) (by kernel_rfl) (by kernel_rfl) (by kernel_rfl) (by kernel_rfl) (by kernel_rfl) (by kernel_rfl) (by kernel_rfl) (by kernel_rfl) (by kernel_rfl)
theorem prime_p : IsP 57896044618658097711785492504343953926634992332820282019728792003956564819949 := step1 (k1 := 781764) (a1 := 2) (u1 := 55540832096118778044507775605005710249233119951144946814680141076505643269084) (f := 255) prime_g (by kernel_rfl) (by kernel_rfl) (by kernel_rfl) (by kernel_rfl) (by kernel_rfl) (by kernel_rfl)
end Go.N
