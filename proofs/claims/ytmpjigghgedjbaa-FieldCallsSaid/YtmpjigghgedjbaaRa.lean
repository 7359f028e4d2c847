/-
  The reference's numbers (ten words), plain: carries, values; the bits of a number in its bytes.
-/
import Derived.Test.YtmpjigghgedjbaaFc
namespace Go.Proofs.Ytmpjigghgedjbaa
open Go Go.V
set_option linter.unusedSimpArgs false
set_option linter.unusedVariables false

def bitsN (i : Nat) : Nat := if i % 2 = 0 then 26 else 25
theorem bitsN_le (i : Nat) : 25 ≤ bitsN i ∧ bitsN i ≤ 26 := by unfold bitsN; split <;> omega
theorem pow_bits (i : Nat) : 2 ^ bitsN i = 67108864 ∨ 2 ^ bitsN i = 33554432 := by unfold bitsN; split <;> simp
def gd (ws : List Nat) (i : Nat) : Nat := ws.getD i 0
abbrev I1 (x : Nat) : Value := .int .i64 (x : Int)
def wL (ws : List Nat) : List Value := ws.map I1
abbrev tenV (ws : List Nat) : Value := .agg (wL ws).toArray
theorem wL_at {ws : List Nat} {i : Nat} (h : i < ws.length) : (wL ws)[i]? = some (I1 (gd ws i)) := by
  unfold wL gd
  rw [List.getElem?_map, List.getElem?_eq_getElem h, List.getD_eq_getElem?_getD, List.getElem?_eq_getElem h]
  rfl
theorem wL_set (ws : List Nat) (i x : Nat) : (wL ws).set i (I1 x) = wL (ws.set i x) := by unfold wL; rw [List.map_set]
theorem wL_len (ws : List Nat) : (wL ws).length = ws.length := by unfold wL; simp
theorem wL_zero : wL [0, 0, 0, 0, 0, 0, 0, 0, 0, 0] = [I1 0, I1 0, I1 0, I1 0, I1 0, I1 0, I1 0, I1 0, I1 0, I1 0] := rfl
attribute [irreducible] wL
theorem gd_set {ws : List Nat} {i : Nat} (h : i < ws.length) (j x : Nat) : gd (ws.set i x) j = if j = i then x else gd ws j := by
  unfold gd
  rw [List.getD_eq_getElem?_getD, List.getD_eq_getElem?_getD, List.getElem?_set]
  by_cases hj : i = j
  · subst hj; simp [h]
  · rw [if_neg hj, if_neg (fun e => hj e.symm)]

/-- One round of the carry, and those that are left. -/
def cstep (i : Nat) (ws : List Nat) : List Nat :=
  let c := gd ws i / 2 ^ bitsN i
  let ws1 := ws.set i (gd ws i - c * 2 ^ bitsN i)
  if i = 9 then ws1.set 0 (gd ws1 0 + 19 * c) else ws1.set (i + 1) (gd ws1 (i + 1) + c)
def cfrom : Nat → List Nat → List Nat
  | 0, ws => ws
  | k + 1, ws => cfrom k (cstep (9 - k) ws)
def carryL (ws : List Nat) : List Nat := cfrom 10 ws
theorem cfrom_succ {i : Nat} (h : i < 10) (ws : List Nat) : cfrom (10 - i) ws = cfrom (10 - (i + 1)) (cstep i ws) := by
  rw [show 10 - i = (9 - i) + 1 by omega, cfrom, show 9 - (9 - i) = i by omega, show 10 - (i + 1) = 9 - i by omega]
theorem divmod (a b : Nat) (hb : 0 < b) : ∃ c r, a / b = c ∧ a - c * b = r ∧ a = b * c + r ∧ r < b := by
  refine ⟨a / b, a - a / b * b, rfl, rfl, ?_, ?_⟩
  · have := Nat.div_mul_le_self a b
    rw [Nat.mul_comm b]; omega
  · have h1 := Nat.div_add_mod a b
    have h2 := Nat.mod_lt a hb
    rw [Nat.mul_comm] at h1; omega
theorem ten {ws : List Nat} (h : ws.length = 10) : ∃ w0 w1 w2 w3 w4 w5 w6 w7 w8 w9, ws = [w0, w1, w2, w3, w4, w5, w6, w7, w8, w9] := by
  match ws, h with
  | [a, b, c, d, e, f, g, i, j, k], _ => exact ⟨_, _, _, _, _, _, _, _, _, _, rfl⟩
theorem carry_spec (w0 w1 w2 w3 w4 w5 w6 w7 w8 w9 : Nat) : ∃ c0 c1 c2 c3 c4 c5 c6 c7 c8 c9 r0 r1 r2 r3 r4 r5 r6 r7 r8 r9,
    carryL [w0, w1, w2, w3, w4, w5, w6, w7, w8, w9] = [r0 + 19 * c9, r1, r2, r3, r4, r5, r6, r7, r8, r9] ∧
    (w0 = 67108864 * c0 + r0 ∧ w1 + c0 = 33554432 * c1 + r1 ∧ w2 + c1 = 67108864 * c2 + r2 ∧ w3 + c2 = 33554432 * c3 + r3 ∧ w4 + c3 = 67108864 * c4 + r4 ∧ w5 + c4 = 33554432 * c5 + r5 ∧ w6 + c5 = 67108864 * c6 + r6 ∧ w7 + c6 = 33554432 * c7 + r7 ∧ w8 + c7 = 67108864 * c8 + r8 ∧ w9 + c8 = 33554432 * c9 + r9) ∧
    (r0 < 67108864 ∧ r1 < 33554432 ∧ r2 < 67108864 ∧ r3 < 33554432 ∧ r4 < 67108864 ∧ r5 < 33554432 ∧ r6 < 67108864 ∧ r7 < 33554432 ∧ r8 < 67108864 ∧ r9 < 33554432) := by
  obtain ⟨c0, r0, d0, m0, e0, l0⟩ := divmod w0 67108864 (by decide)
  obtain ⟨c1, r1, d1, m1, e1, l1⟩ := divmod (w1 + c0) 33554432 (by decide)
  obtain ⟨c2, r2, d2, m2, e2, l2⟩ := divmod (w2 + c1) 67108864 (by decide)
  obtain ⟨c3, r3, d3, m3, e3, l3⟩ := divmod (w3 + c2) 33554432 (by decide)
  obtain ⟨c4, r4, d4, m4, e4, l4⟩ := divmod (w4 + c3) 67108864 (by decide)
  obtain ⟨c5, r5, d5, m5, e5, l5⟩ := divmod (w5 + c4) 33554432 (by decide)
  obtain ⟨c6, r6, d6, m6, e6, l6⟩ := divmod (w6 + c5) 67108864 (by decide)
  obtain ⟨c7, r7, d7, m7, e7, l7⟩ := divmod (w7 + c6) 33554432 (by decide)
  obtain ⟨c8, r8, d8, m8, e8, l8⟩ := divmod (w8 + c7) 67108864 (by decide)
  obtain ⟨c9, r9, d9, m9, e9, l9⟩ := divmod (w9 + c8) 33554432 (by decide)
  refine ⟨c0, c1, c2, c3, c4, c5, c6, c7, c8, c9, r0, r1, r2, r3, r4, r5, r6, r7, r8, r9, ?_, ⟨e0, e1, e2, e3, e4, e5, e6, e7, e8, e9⟩, ⟨l0, l1, l2, l3, l4, l5, l6, l7, l8, l9⟩⟩
  have s0 : cstep 0 [w0, w1, w2, w3, w4, w5, w6, w7, w8, w9] = [r0, w1 + c0, w2, w3, w4, w5, w6, w7, w8, w9] := by rw [← m0, ← d0]; rfl
  have s1 : cstep 1 [r0, w1 + c0, w2, w3, w4, w5, w6, w7, w8, w9] = [r0, r1, w2 + c1, w3, w4, w5, w6, w7, w8, w9] := by rw [← m1, ← d1]; rfl
  have s2 : cstep 2 [r0, r1, w2 + c1, w3, w4, w5, w6, w7, w8, w9] = [r0, r1, r2, w3 + c2, w4, w5, w6, w7, w8, w9] := by rw [← m2, ← d2]; rfl
  have s3 : cstep 3 [r0, r1, r2, w3 + c2, w4, w5, w6, w7, w8, w9] = [r0, r1, r2, r3, w4 + c3, w5, w6, w7, w8, w9] := by rw [← m3, ← d3]; rfl
  have s4 : cstep 4 [r0, r1, r2, r3, w4 + c3, w5, w6, w7, w8, w9] = [r0, r1, r2, r3, r4, w5 + c4, w6, w7, w8, w9] := by rw [← m4, ← d4]; rfl
  have s5 : cstep 5 [r0, r1, r2, r3, r4, w5 + c4, w6, w7, w8, w9] = [r0, r1, r2, r3, r4, r5, w6 + c5, w7, w8, w9] := by rw [← m5, ← d5]; rfl
  have s6 : cstep 6 [r0, r1, r2, r3, r4, r5, w6 + c5, w7, w8, w9] = [r0, r1, r2, r3, r4, r5, r6, w7 + c6, w8, w9] := by rw [← m6, ← d6]; rfl
  have s7 : cstep 7 [r0, r1, r2, r3, r4, r5, r6, w7 + c6, w8, w9] = [r0, r1, r2, r3, r4, r5, r6, r7, w8 + c7, w9] := by rw [← m7, ← d7]; rfl
  have s8 : cstep 8 [r0, r1, r2, r3, r4, r5, r6, r7, w8 + c7, w9] = [r0, r1, r2, r3, r4, r5, r6, r7, r8, w9 + c8] := by rw [← m8, ← d8]; rfl
  have s9 : cstep 9 [r0, r1, r2, r3, r4, r5, r6, r7, r8, w9 + c8] = [r0 + 19 * c9, r1, r2, r3, r4, r5, r6, r7, r8, r9] := by rw [← m9, ← d9]; rfl
  show cfrom 10 _ = _
  unfold cfrom; rw [s0]
  unfold cfrom; rw [s1]
  unfold cfrom; rw [s2]
  unfold cfrom; rw [s3]
  unfold cfrom; rw [s4]
  unfold cfrom; rw [s5]
  unfold cfrom; rw [s6]
  unfold cfrom; rw [s7]
  unfold cfrom; rw [s8]
  unfold cfrom; rw [s9]
  rfl
attribute [irreducible] carryL cfrom cstep

/-- The value of ten words. -/
def V10 : List Nat → Nat
  | [w0, w1, w2, w3, w4, w5, w6, w7, w8, w9] => w0 + 67108864 * w1 + 2251799813685248 * w2 + 151115727451828646838272 * w3 + 5070602400912917605986812821504 * w4 + 340282366920938463463374607431768211456 * w5 + 11417981541647679048466287755595961091061972992 * w6 + 766247770432944429179173513575154591809369561091801088 * w7 + 25711008708143844408671393477458601640355247900524685364822016 * w8 + 1725436586697640946858688965569256363112777243042596638790631055949824 * w9
  | _ => 0
/-- Words as an operation gives them. -/
def Good : List Nat → Prop
  | [w0, w1, w2, w3, w4, w5, w6, w7, w8, w9] => w0 < 67109120 ∧ w1 < 33554432 ∧ w2 < 67108864 ∧ w3 < 33554432 ∧ w4 < 67108864 ∧ w5 < 33554432 ∧ w6 < 67108864 ∧ w7 < 33554432 ∧ w8 < 67108864 ∧ w9 < 33554432
  | _ => False
theorem Good.len {ws : List Nat} (h : Good ws) : ws.length = 10 := by
  unfold Good at h
  split at h
  · rfl
  · exact h.elim
theorem Good.gd {ws : List Nat} (h : Good ws) (i : Nat) : gd ws i < 67109120 := by
  obtain ⟨w0, w1, w2, w3, w4, w5, w6, w7, w8, w9, rfl⟩ := ten h.len
  unfold Good at h
  unfold Go.Proofs.Ytmpjigghgedjbaa.gd
  rcases i with _ | _ | _ | _ | _ | _ | _ | _ | _ | _ | i <;> simp <;> omega
theorem kb {w c b c' r B K : Nat} (h : w + c = b * c' + r) (hw : w < B) (hc : c ≤ K) (hB : B + K ≤ b * (K + 1)) : c' ≤ K := by
  have h1 : b * c' < b * (K + 1) := by omega
  have := Nat.lt_of_mul_lt_mul_left h1
  omega
theorem carry_len {ws : List Nat} (h : ws.length = 10) : (carryL ws).length = 10 := by
  obtain ⟨w0, w1, w2, w3, w4, w5, w6, w7, w8, w9, rfl⟩ := ten h
  obtain ⟨c0, c1, c2, c3, c4, c5, c6, c7, c8, c9, r0, r1, r2, r3, r4, r5, r6, r7, r8, r9, e, _⟩ := carry_spec w0 w1 w2 w3 w4 w5 w6 w7 w8 w9
  rw [e]; rfl
set_option maxHeartbeats 2000000 in
theorem carry_val {ws : List Nat} (h : ws.length = 10) : V10 (carryL ws) % p25519 = V10 ws % p25519 := by
  obtain ⟨w0, w1, w2, w3, w4, w5, w6, w7, w8, w9, rfl⟩ := ten h
  obtain ⟨c0, c1, c2, c3, c4, c5, c6, c7, c8, c9, r0, r1, r2, r3, r4, r5, r6, r7, r8, r9, e, ⟨e0, e1, e2, e3, e4, e5, e6, e7, e8, e9⟩, _⟩ := carry_spec w0 w1 w2 w3 w4 w5 w6 w7 w8 w9
  rw [e]
  have : V10 [w0, w1, w2, w3, w4, w5, w6, w7, w8, w9] = V10 [r0 + 19 * c9, r1, r2, r3, r4, r5, r6, r7, r8, r9] + p25519 * c9 := by
    simp only [V10]; unfold p25519; omega
  rw [this, Nat.add_mul_mod_self_left]
/-- Words below 2^b each: what the carry gives. -/
theorem carry_good {ws : List Nat} (h : ws.length = 10) (hb : ∀ i, gd ws i < 268435456) : Good (carryL ws) := by
  obtain ⟨w0, w1, w2, w3, w4, w5, w6, w7, w8, w9, rfl⟩ := ten h
  obtain ⟨c0, c1, c2, c3, c4, c5, c6, c7, c8, c9, r0, r1, r2, r3, r4, r5, r6, r7, r8, r9, e, ⟨e0, e1, e2, e3, e4, e5, e6, e7, e8, e9⟩, l0, l1, l2, l3, l4, l5, l6, l7, l8, l9⟩ := carry_spec w0 w1 w2 w3 w4 w5 w6 w7 w8 w9
  rw [e]
  have b0 : w0 < 268435456 := hb 0
  have b1 : w1 < 268435456 := hb 1
  have b2 : w2 < 268435456 := hb 2
  have b3 : w3 < 268435456 := hb 3
  have b4 : w4 < 268435456 := hb 4
  have b5 : w5 < 268435456 := hb 5
  have b6 : w6 < 268435456 := hb 6
  have b7 : w7 < 268435456 := hb 7
  have b8 : w8 < 268435456 := hb 8
  have b9 : w9 < 268435456 := hb 9
  have k0 : c0 ≤ 8 := kb (c := 0) (B := 268435456) e0 b0 (by decide) (by decide)
  have k1 : c1 ≤ 8 := kb e1 b1 k0 (by decide)
  have k2 : c2 ≤ 8 := kb e2 b2 k1 (by decide)
  have k3 : c3 ≤ 8 := kb e3 b3 k2 (by decide)
  have k4 : c4 ≤ 8 := kb e4 b4 k3 (by decide)
  have k5 : c5 ≤ 8 := kb e5 b5 k4 (by decide)
  have k6 : c6 ≤ 8 := kb e6 b6 k5 (by decide)
  have k7 : c7 ≤ 8 := kb e7 b7 k6 (by decide)
  have k8 : c8 ≤ 8 := kb e8 b8 k7 (by decide)
  have k9 : c9 ≤ 8 := kb e9 b9 k8 (by decide)
  clear e0 e1 e2 e3 e4 e5 e6 e7 e8 e9
  unfold Good
  refine ⟨by omega, l1, l2, l3, l4, l5, l6, l7, l8, l9⟩
/-- Two carries, of words below 2^61. -/
theorem carry2_good {ws : List Nat} (h : ws.length = 10) (hb : ∀ i, gd ws i < 2305843009213693952) : (∀ i, gd (carryL ws) i < 4398046511104) ∧ Good (carryL (carryL ws)) := by
  obtain ⟨w0, w1, w2, w3, w4, w5, w6, w7, w8, w9, rfl⟩ := ten h
  obtain ⟨c0, c1, c2, c3, c4, c5, c6, c7, c8, c9, r0, r1, r2, r3, r4, r5, r6, r7, r8, r9, e, ⟨e0, e1, e2, e3, e4, e5, e6, e7, e8, e9⟩, l0, l1, l2, l3, l4, l5, l6, l7, l8, l9⟩ := carry_spec w0 w1 w2 w3 w4 w5 w6 w7 w8 w9
  rw [e]
  have b0 : w0 < 2305843009213693952 := hb 0
  have b1 : w1 < 2305843009213693952 := hb 1
  have b2 : w2 < 2305843009213693952 := hb 2
  have b3 : w3 < 2305843009213693952 := hb 3
  have b4 : w4 < 2305843009213693952 := hb 4
  have b5 : w5 < 2305843009213693952 := hb 5
  have b6 : w6 < 2305843009213693952 := hb 6
  have b7 : w7 < 2305843009213693952 := hb 7
  have b8 : w8 < 2305843009213693952 := hb 8
  have b9 : w9 < 2305843009213693952 := hb 9
  have k0 : c0 ≤ 137438953472 := kb (c := 0) (B := 2305843009213693952) e0 b0 (by decide) (by decide)
  have k1 : c1 ≤ 137438953472 := kb e1 b1 k0 (by decide)
  have k2 : c2 ≤ 137438953472 := kb e2 b2 k1 (by decide)
  have k3 : c3 ≤ 137438953472 := kb e3 b3 k2 (by decide)
  have k4 : c4 ≤ 137438953472 := kb e4 b4 k3 (by decide)
  have k5 : c5 ≤ 137438953472 := kb e5 b5 k4 (by decide)
  have k6 : c6 ≤ 137438953472 := kb e6 b6 k5 (by decide)
  have k7 : c7 ≤ 137438953472 := kb e7 b7 k6 (by decide)
  have k8 : c8 ≤ 137438953472 := kb e8 b8 k7 (by decide)
  have k9 : c9 ≤ 137438953472 := kb e9 b9 k8 (by decide)
  generalize hx : r0 + 19 * c9 = x
  have hx2 : x < 4398046511104 := by omega
  clear e0 e1 e2 e3 e4 e5 e6 e7 e8 e9 hx
  constructor
  · intro i
    unfold gd
    rcases i with _ | _ | _ | _ | _ | _ | _ | _ | _ | _ | i <;> simp <;> omega
  · obtain ⟨d0, d1, d2, d3, d4, d5, d6, d7, d8, d9, s0, s1, s2, s3, s4, s5, s6, s7, s8, s9, e', ⟨f0, f1, f2, f3, f4, f5, f6, f7, f8, f9⟩, m0, m1, m2, m3, m4, m5, m6, m7, m8, m9⟩ := carry_spec x r1 r2 r3 r4 r5 r6 r7 r8 r9
    rw [e']
    have q0 : d0 ≤ 65536 := by clear f1 f2 f3 f4 f5 f6 f7 f8 f9; omega
    have q1 : d1 ≤ 1 := by clear f2 f3 f4 f5 f6 f7 f8 f9; omega
    have q2 : d2 ≤ 1 := kb f2 l2 q1 (by decide)
    have q3 : d3 ≤ 1 := kb f3 l3 q2 (by decide)
    have q4 : d4 ≤ 1 := kb f4 l4 q3 (by decide)
    have q5 : d5 ≤ 1 := kb f5 l5 q4 (by decide)
    have q6 : d6 ≤ 1 := kb f6 l6 q5 (by decide)
    have q7 : d7 ≤ 1 := kb f7 l7 q6 (by decide)
    have q8 : d8 ≤ 1 := kb f8 l8 q7 (by decide)
    have q9 : d9 ≤ 1 := kb f9 l9 q8 (by decide)
    unfold Good
    clear f0 f1 f2 f3 f4 f5 f6 f7 f8 f9
    refine ⟨by omega, m1, m2, m3, m4, m5, m6, m7, m8, m9⟩
/-- Words in their bits: the carry leaves them. -/
def Tight : List Nat → Prop
  | [w0, w1, w2, w3, w4, w5, w6, w7, w8, w9] => w0 < 67108864 ∧ w1 < 33554432 ∧ w2 < 67108864 ∧ w3 < 33554432 ∧ w4 < 67108864 ∧ w5 < 33554432 ∧ w6 < 67108864 ∧ w7 < 33554432 ∧ w8 < 67108864 ∧ w9 < 33554432
  | _ => False
theorem Tight.good {ws : List Nat} (h : Tight ws) : Good ws := by
  unfold Tight at h
  split at h
  · unfold Good; exact ⟨by omega, h.2⟩
  · exact h.elim
theorem kz {w c b c' r : Nat} (h : w + c = b * c' + r) (hc : c = 0) (hw : w < b) : c' = 0 := by
  subst hc
  rcases Nat.eq_zero_or_pos c' with h1 | h1
  · exact h1
  · have := Nat.mul_le_mul_left b h1
    omega
theorem carry_tight {ws : List Nat} (h : Tight ws) : carryL ws = ws := by
  obtain ⟨w0, w1, w2, w3, w4, w5, w6, w7, w8, w9, rfl⟩ := ten h.good.len
  unfold Tight at h
  obtain ⟨c0, c1, c2, c3, c4, c5, c6, c7, c8, c9, r0, r1, r2, r3, r4, r5, r6, r7, r8, r9, e, ⟨e0, e1, e2, e3, e4, e5, e6, e7, e8, e9⟩, l0, l1, l2, l3, l4, l5, l6, l7, l8, l9⟩ := carry_spec w0 w1 w2 w3 w4 w5 w6 w7 w8 w9
  obtain ⟨h0, h1, h2, h3, h4, h5, h6, h7, h8, h9⟩ := h
  have k0 : c0 = 0 := kz (c := 0) e0 rfl h0
  have k1 : c1 = 0 := kz e1 k0 h1
  have k2 : c2 = 0 := kz e2 k1 h2
  have k3 : c3 = 0 := kz e3 k2 h3
  have k4 : c4 = 0 := kz e4 k3 h4
  have k5 : c5 = 0 := kz e5 k4 h5
  have k6 : c6 = 0 := kz e6 k5 h6
  have k7 : c7 = 0 := kz e7 k6 h7
  have k8 : c8 = 0 := kz e8 k7 h8
  have k9 : c9 = 0 := kz e9 k8 h9
  subst k0 k1 k2 k3 k4 k5 k6 k7 k8 k9
  rw [e]
  simp only [List.cons.injEq, and_true]
  refine ⟨by omega, by omega, by omega, by omega, by omega, by omega, by omega, by omega, by omega, by omega⟩
theorem good_tight {ws : List Nat} (h : Good ws) : Tight (carryL ws) := by
  obtain ⟨w0, w1, w2, w3, w4, w5, w6, w7, w8, w9, rfl⟩ := ten h.len
  unfold Good at h
  obtain ⟨c0, c1, c2, c3, c4, c5, c6, c7, c8, c9, r0, r1, r2, r3, r4, r5, r6, r7, r8, r9, e, ⟨e0, e1, e2, e3, e4, e5, e6, e7, e8, e9⟩, l0, l1, l2, l3, l4, l5, l6, l7, l8, l9⟩ := carry_spec w0 w1 w2 w3 w4 w5 w6 w7 w8 w9
  obtain ⟨h0, h1, h2, h3, h4, h5, h6, h7, h8, h9⟩ := h
  rw [e]
  unfold Tight
  refine ⟨?_, l1, l2, l3, l4, l5, l6, l7, l8, l9⟩
  rcases Nat.eq_zero_or_pos c0 with k | k
  · have k1 : c1 = 0 := kz e1 k h1
    have k2 : c2 = 0 := kz e2 k1 h2
    have k3 : c3 = 0 := kz e3 k2 h3
    have k4 : c4 = 0 := kz e4 k3 h4
    have k5 : c5 = 0 := kz e5 k4 h5
    have k6 : c6 = 0 := kz e6 k5 h6
    have k7 : c7 = 0 := kz e7 k6 h7
    have k8 : c8 = 0 := kz e8 k7 h8
    have k9 : c9 = 0 := kz e9 k8 h9
    subst k1 k2 k3 k4 k5 k6 k7 k8 k9
    subst k
    clear e1 e2 e3 e4 e5 e6 e7 e8 e9
    omega
  · have q0 : c0 ≤ 1 := by clear e1 e2 e3 e4 e5 e6 e7 e8 e9; omega
    have q1 : c1 ≤ 1 := kb e1 h1 q0 (by decide)
    have q2 : c2 ≤ 1 := kb e2 h2 q1 (by decide)
    have q3 : c3 ≤ 1 := kb e3 h3 q2 (by decide)
    have q4 : c4 ≤ 1 := kb e4 h4 q3 (by decide)
    have q5 : c5 ≤ 1 := kb e5 h5 q4 (by decide)
    have q6 : c6 ≤ 1 := kb e6 h6 q5 (by decide)
    have q7 : c7 ≤ 1 := kb e7 h7 q6 (by decide)
    have q8 : c8 ≤ 1 := kb e8 h8 q7 (by decide)
    have q9 : c9 ≤ 1 := kb e9 h9 q8 (by decide)
    clear e1 e2 e3 e4 e5 e6 e7 e8 e9
    omega
theorem carry4 {ws : List Nat} (h : Good ws) : Tight (carryL (carryL (carryL (carryL ws)))) ∧ V10 (carryL (carryL (carryL (carryL ws)))) % p25519 = V10 ws % p25519 := by
  have h1 := good_tight h
  rw [carry_tight h1, carry_tight h1, carry_tight h1]
  exact ⟨h1, carry_val h.len⟩
theorem tight_lt {ws : List Nat} (h : Tight ws) : V10 ws < 57896044618658097711785492504343953926634992332820282019728792003956564819968 := by
  obtain ⟨w0, w1, w2, w3, w4, w5, w6, w7, w8, w9, rfl⟩ := ten h.good.len
  unfold Tight at h
  simp only [V10]
  omega
end Go.Proofs.Ytmpjigghgedjbaa
