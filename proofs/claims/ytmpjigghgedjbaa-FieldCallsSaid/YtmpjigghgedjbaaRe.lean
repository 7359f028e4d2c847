/-
  The reference's numbers, plain: sums, differences, products of ten words.
-/
import Derived.Test.YtmpjigghgedjbaaRd
namespace Go.Proofs.Ytmpjigghgedjbaa
open Go Go.V
set_option linter.unusedSimpArgs false
set_option linter.unusedVariables false

/-- Ten words that stand for a number. -/
def Rep (ws : List Nat) (A : Nat) : Prop := Good ws ∧ V10 ws % p25519 = A % p25519
def updL (xs zs : List Nat) (i : Nat) : List Nat := (List.range 10).map fun j => if j < i then gd zs j else gd xs j
theorem updL_len (xs zs : List Nat) (i : Nat) : (updL xs zs i).length = 10 := by unfold updL; simp
theorem updL_gd (xs zs : List Nat) (i : Nat) {j : Nat} (hj : j < 10) : gd (updL xs zs i) j = if j < i then gd zs j else gd xs j := by
  unfold gd updL
  rw [List.getD_eq_getElem?_getD, List.getElem?_map, List.getElem?_range hj]
  rfl
theorem updL_0 {xs zs : List Nat} (h : xs.length = 10) : updL xs zs 0 = xs := ten_ext (updL_len _ _ _) h fun j hj => by rw [updL_gd _ _ _ hj, if_neg (by omega)]
theorem updL_10 {xs zs : List Nat} (h : zs.length = 10) : updL xs zs 10 = zs := ten_ext (updL_len _ _ _) h fun j hj => by rw [updL_gd _ _ _ hj, if_pos hj]
theorem updL_at (xs zs : List Nat) {i : Nat} (hi : i < 10) : gd (updL xs zs i) i = gd xs i := by rw [updL_gd _ _ _ hi, if_neg (by omega)]
theorem updL_set (xs zs : List Nat) {i : Nat} (hi : i < 10) : (updL xs zs i).set i (gd zs i) = updL xs zs (i + 1) := by
  refine ten_ext (by simp [updL_len]) (updL_len _ _ _) fun j hj => ?_
  rw [gd_set (by rw [updL_len]; exact hi), updL_gd _ _ _ hj, updL_gd _ _ _ hj]
  by_cases h : j = i
  · subst h; rw [if_pos rfl, if_pos (by omega)]
  · rw [if_neg h]
    by_cases h2 : j < i
    · rw [if_pos h2, if_pos (by omega)]
    · rw [if_neg h2, if_neg (by omega)]
def mapL (f : Nat → Nat) : List Nat := (List.range 10).map f
theorem mapL_len (f : Nat → Nat) : (mapL f).length = 10 := by unfold mapL; simp
theorem mapL_gd (f : Nat → Nat) {j : Nat} (hj : j < 10) : gd (mapL f) j = f j := by
  unfold gd mapL
  rw [List.getD_eq_getElem?_getD, List.getElem?_map, List.getElem?_range hj]
  rfl
theorem gd_ge {ws : List Nat} {i : Nat} (h : ws.length ≤ i) : gd ws i = 0 := by
  unfold gd; rw [List.getD_eq_getElem?_getD, List.getElem?_eq_none h]; rfl
def addW (xs ys : List Nat) : List Nat := mapL fun j => gd xs j + gd ys j
def pj (j : Nat) : Nat := if j = 0 then 67108845 else 2 ^ bitsN j - 1
def subW (xs ys : List Nat) : List Nat := mapL fun j => gd xs j + 4 * pj j - gd ys j
def plusW (xs ys : List Nat) : List Nat := carryL (addW xs ys)
def minusW (xs ys : List Nat) : List Nat := carryL (subW xs ys)
theorem addW_lt {xs ys : List Nat} (hx : Good xs) (hy : Good ys) (i : Nat) : gd (addW xs ys) i < 268435456 := by
  rcases Nat.lt_or_ge i 10 with hi | hi
  · unfold addW; rw [mapL_gd _ hi]
    have := hx.gd i; have := hy.gd i; omega
  · rw [gd_ge (by unfold addW; rw [mapL_len]; exact hi)]; decide
theorem pj_le (j : Nat) : pj j ≤ 67108863 ∧ 33554431 ≤ pj j := by
  unfold pj
  split
  · omega
  · rcases pow_bits j with h | h <;> rw [h] <;> omega
theorem sub_ok {ys : List Nat} (hy : Good ys) (j : Nat) : gd ys j ≤ 4 * pj j := by have := hy.gd j; have := pj_le j; omega
theorem subW_lt {xs ys : List Nat} (hx : Good xs) (hy : Good ys) (i : Nat) : gd (subW xs ys) i < 402653184 := by
  rcases Nat.lt_or_ge i 10 with hi | hi
  · unfold subW; rw [mapL_gd _ hi]
    have := hx.gd i; have := hy.gd i; have := pj_le i; omega
  · rw [gd_ge (by unfold subW; rw [mapL_len]; exact hi)]; decide
theorem addW_val {xs ys : List Nat} (hx : xs.length = 10) (hy : ys.length = 10) : V10 (addW xs ys) = V10 xs + V10 ys := by
  obtain ⟨x0, x1, x2, x3, x4, x5, x6, x7, x8, x9, rfl⟩ := ten hx
  obtain ⟨y0, y1, y2, y3, y4, y5, y6, y7, y8, y9, rfl⟩ := ten hy
  have : addW [x0, x1, x2, x3, x4, x5, x6, x7, x8, x9] [y0, y1, y2, y3, y4, y5, y6, y7, y8, y9] = [x0 + y0, x1 + y1, x2 + y2, x3 + y3, x4 + y4, x5 + y5, x6 + y6, x7 + y7, x8 + y8, x9 + y9] := rfl
  rw [this]; simp only [V10]; omega
theorem subW_val {xs ys : List Nat} (hx : Good xs) (hy : Good ys) : V10 (subW xs ys) + V10 ys = V10 xs + p25519 * 4 := by
  have l := hx.len
  have m := hy.len
  obtain ⟨x0, x1, x2, x3, x4, x5, x6, x7, x8, x9, rfl⟩ := ten l
  obtain ⟨y0, y1, y2, y3, y4, y5, y6, y7, y8, y9, rfl⟩ := ten m
  have : subW [x0, x1, x2, x3, x4, x5, x6, x7, x8, x9] [y0, y1, y2, y3, y4, y5, y6, y7, y8, y9] = [x0 + 268435380 - y0, x1 + 134217724 - y1, x2 + 268435452 - y2, x3 + 134217724 - y3, x4 + 268435452 - y4, x5 + 134217724 - y5, x6 + 268435452 - y6, x7 + 134217724 - y7, x8 + 268435452 - y8, x9 + 134217724 - y9] := rfl
  rw [this]; simp only [V10]; unfold p25519
  unfold Good at hy
  obtain ⟨h0, h1, h2, h3, h4, h5, h6, h7, h8, h9⟩ := hy
  clear l m hx this
  have k : ∀ {x c y : Nat}, y < c → ∃ z, x + c - y = z ∧ z + y = x + c := fun h => ⟨_, rfl, by omega⟩
  obtain ⟨z0, e0, f0⟩ := k (x := x0) (c := 268435380) (y := y0) (by omega)
  obtain ⟨z1, e1, f1⟩ := k (x := x1) (c := 134217724) (y := y1) (by omega)
  obtain ⟨z2, e2, f2⟩ := k (x := x2) (c := 268435452) (y := y2) (by omega)
  obtain ⟨z3, e3, f3⟩ := k (x := x3) (c := 134217724) (y := y3) (by omega)
  obtain ⟨z4, e4, f4⟩ := k (x := x4) (c := 268435452) (y := y4) (by omega)
  obtain ⟨z5, e5, f5⟩ := k (x := x5) (c := 134217724) (y := y5) (by omega)
  obtain ⟨z6, e6, f6⟩ := k (x := x6) (c := 268435452) (y := y6) (by omega)
  obtain ⟨z7, e7, f7⟩ := k (x := x7) (c := 134217724) (y := y7) (by omega)
  obtain ⟨z8, e8, f8⟩ := k (x := x8) (c := 268435452) (y := y8) (by omega)
  obtain ⟨z9, e9, f9⟩ := k (x := x9) (c := 134217724) (y := y9) (by omega)
  rw [e0, e1, e2, e3, e4, e5, e6, e7, e8, e9]
  clear e0 e1 e2 e3 e4 e5 e6 e7 e8 e9 h0 h1 h2 h3 h4 h5 h6 h7 h8 h9 k
  omega
/-- The carry of words below 2^29. -/
theorem carry_good3 {ws : List Nat} (h : ws.length = 10) (hb : ∀ i, gd ws i < 402653184) : Good (carryL ws) := by
  obtain ⟨w0, w1, w2, w3, w4, w5, w6, w7, w8, w9, rfl⟩ := ten h
  obtain ⟨c0, c1, c2, c3, c4, c5, c6, c7, c8, c9, r0, r1, r2, r3, r4, r5, r6, r7, r8, r9, e, ⟨e0, e1, e2, e3, e4, e5, e6, e7, e8, e9⟩, l0, l1, l2, l3, l4, l5, l6, l7, l8, l9⟩ := carry_spec w0 w1 w2 w3 w4 w5 w6 w7 w8 w9
  rw [e]
  have b0 : w0 < 402653184 := hb 0
  have b1 : w1 < 402653184 := hb 1
  have b2 : w2 < 402653184 := hb 2
  have b3 : w3 < 402653184 := hb 3
  have b4 : w4 < 402653184 := hb 4
  have b5 : w5 < 402653184 := hb 5
  have b6 : w6 < 402653184 := hb 6
  have b7 : w7 < 402653184 := hb 7
  have b8 : w8 < 402653184 := hb 8
  have b9 : w9 < 402653184 := hb 9
  have k0 : c0 ≤ 12 := kb (c := 0) (B := 402653184) e0 b0 (by decide) (by decide)
  have k1 : c1 ≤ 12 := kb e1 b1 k0 (by decide)
  have k2 : c2 ≤ 12 := kb e2 b2 k1 (by decide)
  have k3 : c3 ≤ 12 := kb e3 b3 k2 (by decide)
  have k4 : c4 ≤ 12 := kb e4 b4 k3 (by decide)
  have k5 : c5 ≤ 12 := kb e5 b5 k4 (by decide)
  have k6 : c6 ≤ 12 := kb e6 b6 k5 (by decide)
  have k7 : c7 ≤ 12 := kb e7 b7 k6 (by decide)
  have k8 : c8 ≤ 12 := kb e8 b8 k7 (by decide)
  have k9 : c9 ≤ 12 := kb e9 b9 k8 (by decide)
  clear e0 e1 e2 e3 e4 e5 e6 e7 e8 e9
  unfold Good
  refine ⟨by omega, l1, l2, l3, l4, l5, l6, l7, l8, l9⟩
theorem rep_plus {xs ys : List Nat} {A B : Nat} (hx : Rep xs A) (hy : Rep ys B) : Rep (plusW xs ys) (A + B) := by
  refine ⟨carry_good (mapL_len _) (addW_lt hx.1 hy.1), ?_⟩
  unfold plusW
  rw [carry_val (show (addW xs ys).length = 10 from mapL_len _), addW_val hx.1.len hy.1.len, Nat.add_mod, hx.2, hy.2, ← Nat.add_mod]
theorem rep_minus {xs ys : List Nat} {A B : Nat} (hx : Rep xs A) (hy : Rep ys B) : Rep (minusW xs ys) (A + (p25519 - B % p25519)) := by
  refine ⟨carry_good3 (mapL_len _) (subW_lt hx.1 hy.1), ?_⟩
  unfold minusW
  rw [carry_val (show (subW xs ys).length = 10 from mapL_len _)]
  have h := subW_val hx.1 hy.1
  have h1 := hx.2
  have h2 := hy.2
  generalize V10 (subW xs ys) = Z at *
  generalize V10 xs = X at *
  generalize V10 ys = Y at *
  have hB : B % p25519 < p25519 := Nat.mod_lt _ (by decide)
  have h3 : (Z + Y) % p25519 = X % p25519 := by rw [h, Nat.add_mul_mod_self_left]
  unfold p25519 at *
  omega
theorem rep_mod {ws : List Nat} {A B : Nat} (h : Rep ws A) (e : A % p25519 = B % p25519) : Rep ws B := ⟨h.1, h.2.trans e⟩
theorem rep_open {N : Nat} (hN : N < 115792089237316195423570985008687907853269984665640564039457584007913129639936) : Rep (carryL (opL N 10 0)) N :=
  ⟨opL_good N, by rw [carry_val (opL_len _ _ _), opL_val hN]⟩

/-- What the i-th and the k-th word give. -/
def termW (xs ys : List Nat) (i k : Nat) : Nat :=
  let p := gd xs i * gd ys k
  let q := if i % 2 = 1 ∧ k % 2 = 1 then 2 * p else p
  if 9 < i + k then 19 * q else q
def rowW (xs ys : List Nat) (i : Nat) : Nat → List Nat → List Nat
  | 0, out => out
  | k + 1, out => (rowW xs ys i k out).set ((i + k) % 10) (gd (rowW xs ys i k out) ((i + k) % 10) + termW xs ys i k)
def allW (xs ys : List Nat) : Nat → List Nat
  | 0 => [0, 0, 0, 0, 0, 0, 0, 0, 0, 0]
  | i + 1 => rowW xs ys i 10 (allW xs ys i)
def timesW (xs ys : List Nat) : List Nat := carryL (carryL (allW xs ys 10))
theorem rowW_len (xs ys : List Nat) (i : Nat) {out : List Nat} (h : out.length = 10) : ∀ k, (rowW xs ys i k out).length = 10
  | 0 => h
  | k + 1 => by unfold rowW; rw [List.length_set]; exact rowW_len xs ys i h k
theorem allW_len (xs ys : List Nat) : ∀ i, (allW xs ys i).length = 10
  | 0 => rfl
  | i + 1 => rowW_len xs ys i (allW_len xs ys i) 10
theorem termW_le {xs ys : List Nat} (hx : Good xs) (hy : Good ys) (i k : Nat) : termW xs ys i k ≤ 171138287554625318 := by
  have h1 := hx.gd i
  have h2 := hy.gd k
  have h3 : gd xs i * gd ys k ≤ 67109119 * 67109119 := Nat.mul_le_mul (by omega) (by omega)
  unfold termW
  simp only
  split <;> split <;> omega
/-- Each word gets one part in a row. -/
theorem rowW_le {xs ys : List Nat} (hx : Good xs) (hy : Good ys) {i : Nat} (hi : i < 10) {out : List Nat} (hl : out.length = 10) {M : Nat} (h : ∀ j, gd out j ≤ M) :
    ∀ k, k ≤ 10 → (∀ j, gd (rowW xs ys i k out) j ≤ M + 171138287554625318) ∧ ∀ k', k ≤ k' → k' < 10 → gd (rowW xs ys i k out) ((i + k') % 10) ≤ M
  | 0, _ => ⟨fun j => Nat.le_trans (h j) (Nat.le_add_right _ _), fun k' _ _ => h _⟩
  | k + 1, hk => by
    obtain ⟨h1, h2⟩ := rowW_le hx hy hi hl h k (by omega)
    have hlen := rowW_len xs ys i hl k
    have ht := termW_le hx hy i k
    have h3 := h2 k (Nat.le_refl _) (by omega)
    unfold rowW
    refine ⟨fun j => ?_, fun k' hk' hk2 => ?_⟩
    · rw [gd_set (by omega)]
      split
      · omega
      · exact h1 j
    · rw [gd_set (by omega), if_neg (by omega)]
      exact h2 k' (by omega) hk2
theorem allW_le {xs ys : List Nat} (hx : Good xs) (hy : Good ys) : ∀ i, i ≤ 10 → ∀ j, gd (allW xs ys i) j ≤ i * 171138287554625318
  | 0, _, j => by
    rcases Nat.lt_or_ge j 10 with hj | hj
    · obtain rfl | rfl | rfl | rfl | rfl | rfl | rfl | rfl | rfl | rfl : j = 0 ∨ j = 1 ∨ j = 2 ∨ j = 3 ∨ j = 4 ∨ j = 5 ∨ j = 6 ∨ j = 7 ∨ j = 8 ∨ j = 9 := by omega
      all_goals exact Nat.zero_le _
    · rw [gd_ge (by exact hj)]; exact Nat.zero_le _
  | i + 1, hi, j => by
    unfold allW
    have := (rowW_le hx hy (show i < 10 by omega) (allW_len xs ys i) (allW_le hx hy i (by omega)) 10 (Nat.le_refl _)).1 j
    omega
theorem allW_lt {xs ys : List Nat} (hx : Good xs) (hy : Good ys) (j : Nat) : gd (allW xs ys 10) j < 2305843009213693952 := by
  have := allW_le hx hy 10 (Nat.le_refl _) j
  omega
theorem times_good {xs ys : List Nat} (hx : Good xs) (hy : Good ys) : Good (timesW xs ys) := (carry2_good (allW_len _ _ _) (allW_lt hx hy)).2
theorem times_val {xs ys : List Nat} (hx : xs.length = 10) (hy : ys.length = 10) : V10 (timesW xs ys) % p25519 = V10 (allW xs ys 10) % p25519 := by
  unfold timesW
  rw [carry_val (carry_len (allW_len _ _ _)), carry_val (allW_len _ _ _)]
theorem V10_add {l : List Nat} (hl : l.length = 10) {j : Nat} (hj : j < 10) (t : Nat) : V10 (l.set j (gd l j + t)) = V10 l + t * 2 ^ offN j := by
  obtain ⟨l0, l1, l2, l3, l4, l5, l6, l7, l8, l9, rfl⟩ := ten hl
  obtain rfl | rfl | rfl | rfl | rfl | rfl | rfl | rfl | rfl | rfl : j = 0 ∨ j = 1 ∨ j = 2 ∨ j = 3 ∨ j = 4 ∨ j = 5 ∨ j = 6 ∨ j = 7 ∨ j = 8 ∨ j = 9 := by omega
  · have e : V10 [l0 + t, l1, l2, l3, l4, l5, l6, l7, l8, l9] = V10 [l0, l1, l2, l3, l4, l5, l6, l7, l8, l9] + t * 1 := by simp only [V10]; omega
    exact e
  · have e : V10 [l0, l1 + t, l2, l3, l4, l5, l6, l7, l8, l9] = V10 [l0, l1, l2, l3, l4, l5, l6, l7, l8, l9] + t * 67108864 := by simp only [V10]; omega
    exact e
  · have e : V10 [l0, l1, l2 + t, l3, l4, l5, l6, l7, l8, l9] = V10 [l0, l1, l2, l3, l4, l5, l6, l7, l8, l9] + t * 2251799813685248 := by simp only [V10]; omega
    exact e
  · have e : V10 [l0, l1, l2, l3 + t, l4, l5, l6, l7, l8, l9] = V10 [l0, l1, l2, l3, l4, l5, l6, l7, l8, l9] + t * 151115727451828646838272 := by simp only [V10]; omega
    exact e
  · have e : V10 [l0, l1, l2, l3, l4 + t, l5, l6, l7, l8, l9] = V10 [l0, l1, l2, l3, l4, l5, l6, l7, l8, l9] + t * 5070602400912917605986812821504 := by simp only [V10]; omega
    exact e
  · have e : V10 [l0, l1, l2, l3, l4, l5 + t, l6, l7, l8, l9] = V10 [l0, l1, l2, l3, l4, l5, l6, l7, l8, l9] + t * 340282366920938463463374607431768211456 := by simp only [V10]; omega
    exact e
  · have e : V10 [l0, l1, l2, l3, l4, l5, l6 + t, l7, l8, l9] = V10 [l0, l1, l2, l3, l4, l5, l6, l7, l8, l9] + t * 11417981541647679048466287755595961091061972992 := by simp only [V10]; omega
    exact e
  · have e : V10 [l0, l1, l2, l3, l4, l5, l6, l7 + t, l8, l9] = V10 [l0, l1, l2, l3, l4, l5, l6, l7, l8, l9] + t * 766247770432944429179173513575154591809369561091801088 := by simp only [V10]; omega
    exact e
  · have e : V10 [l0, l1, l2, l3, l4, l5, l6, l7, l8 + t, l9] = V10 [l0, l1, l2, l3, l4, l5, l6, l7, l8, l9] + t * 25711008708143844408671393477458601640355247900524685364822016 := by simp only [V10]; omega
    exact e
  · have e : V10 [l0, l1, l2, l3, l4, l5, l6, l7, l8, l9 + t] = V10 [l0, l1, l2, l3, l4, l5, l6, l7, l8, l9] + t * 1725436586697640946858688965569256363112777243042596638790631055949824 := by simp only [V10]; omega
    exact e
theorem high_mod (Z : Nat) : 19 * Z % p25519 = 57896044618658097711785492504343953926634992332820282019728792003956564819968 * Z % p25519 := by
  have : 57896044618658097711785492504343953926634992332820282019728792003956564819968 * Z = 19 * Z + p25519 * Z := by unfold p25519; omega
  rw [this, Nat.add_mul_mod_self_left]
theorem term_val (xs ys : List Nat) {i k : Nat} (hi : i < 10) (hk : k < 10) : termW xs ys i k * 2 ^ offN ((i + k) % 10) % p25519 = gd xs i * 2 ^ offN i * (gd ys k * 2 ^ offN k) % p25519 := by
  have e1 : gd xs i * 2 ^ offN i * (gd ys k * 2 ^ offN k) = (if i % 2 = 1 ∧ k % 2 = 1 then 2 * (gd xs i * gd ys k) else gd xs i * gd ys k) * 2 ^ offN (i + k) := by
    have e2 : gd xs i * 2 ^ offN i * (gd ys k * 2 ^ offN k) = gd xs i * gd ys k * 2 ^ (offN i + offN k) := by rw [Nat.pow_add]; grind
    rw [e2]
    split
    · rename_i h
      have : offN i + offN k = offN (i + k) + 1 := by unfold offN; omega
      rw [this, Nat.pow_succ]; grind
    · rename_i h
      have : offN i + offN k = offN (i + k) := by unfold offN; omega
      rw [this]
  rw [e1]
  unfold termW
  simp only
  generalize (if i % 2 = 1 ∧ k % 2 = 1 then 2 * (gd xs i * gd ys k) else gd xs i * gd ys k) = q
  split
  · rename_i h
    have h2 : offN (i + k) = 255 + offN ((i + k) % 10) := by unfold offN; omega
    rw [h2, Nat.pow_add, Nat.mul_assoc, high_mod]
    congr 1
    rw [show (57896044618658097711785492504343953926634992332820282019728792003956564819968 : Nat) = 2 ^ 255 from by decide]
    grind
  · rename_i h
    rw [Nat.mod_eq_of_lt (show i + k < 10 by omega)]
theorem add_modc {a b c d p : Nat} (h1 : a % p = b % p) (h2 : c % p = d % p) : (a + c) % p = (b + d) % p := by rw [Nat.add_mod, h1, h2, ← Nat.add_mod]
theorem rowW_val (xs ys : List Nat) {i : Nat} (hi : i < 10) {out : List Nat} (hl : out.length = 10) : ∀ k, k ≤ 10 → V10 (rowW xs ys i k out) % p25519 = (V10 out + gd xs i * 2 ^ offN i * psN ys k) % p25519
  | 0, _ => by unfold rowW psN; rw [Nat.mul_zero, Nat.add_zero]
  | k + 1, hk => by
    unfold rowW psN
    rw [V10_add (rowW_len xs ys i hl k) (Nat.mod_lt _ (by decide)), Nat.mul_add, ← Nat.add_assoc]
    exact add_modc (rowW_val xs ys hi hl k (by omega)) (term_val xs ys hi (by omega))
theorem allW_val' (xs ys : List Nat) : ∀ i, i ≤ 10 → V10 (allW xs ys i) % p25519 = psN xs i * psN ys 10 % p25519
  | 0, _ => by unfold allW psN; rw [Nat.zero_mul]; rfl
  | i + 1, hi => by
    unfold allW
    rw [rowW_val xs ys (by omega) (allW_len xs ys i) 10 (Nat.le_refl _)]
    show _ = (psN xs i + gd xs i * 2 ^ offN i) * psN ys 10 % p25519
    rw [Nat.add_mul]
    exact add_modc (allW_val' xs ys i (by omega)) rfl
theorem rep_times {xs ys : List Nat} {A B : Nat} (hx : Rep xs A) (hy : Rep ys B) : Rep (timesW xs ys) (A * B) := by
  refine ⟨times_good hx.1 hy.1, ?_⟩
  rw [times_val hx.1.len hy.1.len, allW_val' _ _ 10 (Nat.le_refl _), ps_val hx.1.len, ps_val hy.1.len, Nat.mul_mod, hx.2, hy.2, ← Nat.mul_mod]
theorem addW_len (xs ys : List Nat) : (addW xs ys).length = 10 := mapL_len _
theorem subW_len (xs ys : List Nat) : (subW xs ys).length = 10 := mapL_len _
theorem addW_gd (xs ys : List Nat) {i : Nat} (h : i < 10) : gd (addW xs ys) i = gd xs i + gd ys i := mapL_gd _ h
theorem subW_gd (xs ys : List Nat) {i : Nat} (h : i < 10) : gd (subW xs ys) i = gd xs i + 4 * pj i - gd ys i := mapL_gd _ h
attribute [irreducible] termW rowW allW timesW addW subW plusW minusW updL mapL
end Go.Proofs.Ytmpjigghgedjbaa
