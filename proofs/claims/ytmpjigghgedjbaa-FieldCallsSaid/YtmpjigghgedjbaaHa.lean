/-
  The frame of the field's laws: numbers that come in.
-/
import Derived.Test.YtmpjigghgedjbaaFr
import Derived.Test.YtmpjigghgedjbaaFi
namespace Go.Proofs.Ytmpjigghgedjbaa
open Go Go.RowKit Go.V Go.ChangeShapes Go.WideShapes Go.ChangeAt
set_option linter.unusedVariables false

set_option maxHeartbeats 1000000 in
/-- Eight octets are a word. -/
theorem b8_of {l : List Value} (hl : l.length = 8) (h : ∀ i, i < 8 → ∃ z : Nat, z < 256 ∧ l[i]? = some (B1 z)) : ∃ x, x < 18446744073709551616 ∧ l = b8 x := by
  match l, hl with
  | [a0, a1, a2, a3, a4, a5, a6, a7], _ =>
    obtain ⟨z0, h0, e0⟩ := h 0 (by omega)
    obtain ⟨z1, h1, e1⟩ := h 1 (by omega)
    obtain ⟨z2, h2, e2⟩ := h 2 (by omega)
    obtain ⟨z3, h3, e3⟩ := h 3 (by omega)
    obtain ⟨z4, h4, e4⟩ := h 4 (by omega)
    obtain ⟨z5, h5, e5⟩ := h 5 (by omega)
    obtain ⟨z6, h6, e6⟩ := h 6 (by omega)
    obtain ⟨z7, h7, e7⟩ := h 7 (by omega)
    obtain rfl : a0 = B1 z0 := Option.some.inj e0
    obtain rfl : a1 = B1 z1 := Option.some.inj e1
    obtain rfl : a2 = B1 z2 := Option.some.inj e2
    obtain rfl : a3 = B1 z3 := Option.some.inj e3
    obtain rfl : a4 = B1 z4 := Option.some.inj e4
    obtain rfl : a5 = B1 z5 := Option.some.inj e5
    obtain rfl : a6 = B1 z6 := Option.some.inj e6
    obtain rfl : a7 = B1 z7 := Option.some.inj e7
    obtain ⟨y6, hy6⟩ : ∃ y, y = z6 + 256 * z7 := ⟨_, rfl⟩
    have b6 : y6 < 65536 := by omega
    obtain ⟨y5, hy5⟩ : ∃ y, y = z5 + 256 * y6 := ⟨_, rfl⟩
    have b5 : y5 < 16777216 := by omega
    obtain ⟨y4, hy4⟩ : ∃ y, y = z4 + 256 * y5 := ⟨_, rfl⟩
    have b4 : y4 < 4294967296 := by omega
    obtain ⟨y3, hy3⟩ : ∃ y, y = z3 + 256 * y4 := ⟨_, rfl⟩
    have b3 : y3 < 1099511627776 := by omega
    obtain ⟨y2, hy2⟩ : ∃ y, y = z2 + 256 * y3 := ⟨_, rfl⟩
    have b2 : y2 < 281474976710656 := by omega
    obtain ⟨y1, hy1⟩ : ∃ y, y = z1 + 256 * y2 := ⟨_, rfl⟩
    have b1 : y1 < 72057594037927936 := by omega
    obtain ⟨y0, hy0⟩ : ∃ y, y = z0 + 256 * y1 := ⟨_, rfl⟩
    have b0 : y0 < 18446744073709551616 := by omega
    refine ⟨y0, b0, ?_⟩
    have g1 : y0 / 256 = y1 := by omega
    have g2 : y0 / 65536 = y2 := by rw [show 65536 = 256 * 256 from rfl, ← Nat.div_div_eq_div_mul, g1]; omega
    have g3 : y0 / 16777216 = y3 := by rw [show 16777216 = 65536 * 256 from rfl, ← Nat.div_div_eq_div_mul, g2]; omega
    have g4 : y0 / 4294967296 = y4 := by rw [show 4294967296 = 16777216 * 256 from rfl, ← Nat.div_div_eq_div_mul, g3]; omega
    have g5 : y0 / 1099511627776 = y5 := by rw [show 1099511627776 = 4294967296 * 256 from rfl, ← Nat.div_div_eq_div_mul, g4]; omega
    have g6 : y0 / 281474976710656 = y6 := by rw [show 281474976710656 = 1099511627776 * 256 from rfl, ← Nat.div_div_eq_div_mul, g5]; omega
    have g7 : y0 / 72057594037927936 = z7 := by rw [show 72057594037927936 = 281474976710656 * 256 from rfl, ← Nat.div_div_eq_div_mul, g6]; omega
    unfold b8
    rw [g1, g2, g3, g4, g5, g6, g7]
    have f0 : y0 % 256 = z0 := by omega
    have f1 : y1 % 256 = z1 := by omega
    have f2 : y2 % 256 = z2 := by omega
    have f3 : y3 % 256 = z3 := by omega
    have f4 : y4 % 256 = z4 := by omega
    have f5 : y5 % 256 = z5 := by omega
    have f6 : y6 % 256 = z6 := by omega
    have f7 : z7 % 256 = z7 := by omega
    rw [f0, f1, f2, f3, f4, f5, f6, f7]
/-- Thirty-two octets are a number. -/
theorem num_of {l : List Value} (hl : l.length = 32) (h : ∀ i, i < 32 → ∃ z : Nat, z < 256 ∧ l[i]? = some (B1 z)) : ∃ N, N < 115792089237316195423570985008687907853269984665640564039457584007913129639936 ∧ l = numL N := by
  have part : ∀ k, k + 8 ≤ 32 → ∃ x, x < 18446744073709551616 ∧ (l.drop k).take 8 = b8 x := by
    intro k hk
    refine b8_of (by simp; omega) fun i hi => ?_
    obtain ⟨z, hz, e⟩ := h (k + i) (by omega)
    exact ⟨z, hz, by rw [List.getElem?_take, if_pos hi, List.getElem?_drop]; exact e⟩
  obtain ⟨x0, h0, e0⟩ := part 0 (by omega)
  obtain ⟨x1, h1, e1⟩ := part 8 (by omega)
  obtain ⟨x2, h2, e2⟩ := part 16 (by omega)
  obtain ⟨x3, h3, e3⟩ := part 24 (by omega)
  refine ⟨x0 + 18446744073709551616 * x1 + 340282366920938463463374607431768211456 * x2 + 6277101735386680763835789423207666416102355444464034512896 * x3, by omega, ?_⟩
  have f0 : q0 (x0 + 18446744073709551616 * x1 + 340282366920938463463374607431768211456 * x2 + 6277101735386680763835789423207666416102355444464034512896 * x3) = x0 := by unfold q0; omega
  have f1 : q1 (x0 + 18446744073709551616 * x1 + 340282366920938463463374607431768211456 * x2 + 6277101735386680763835789423207666416102355444464034512896 * x3) = x1 := by unfold q1; omega
  have f2 : q2 (x0 + 18446744073709551616 * x1 + 340282366920938463463374607431768211456 * x2 + 6277101735386680763835789423207666416102355444464034512896 * x3) = x2 := by unfold q2; omega
  have f3 : q3 (x0 + 18446744073709551616 * x1 + 340282366920938463463374607431768211456 * x2 + 6277101735386680763835789423207666416102355444464034512896 * x3) = x3 := by unfold q3; omega
  unfold numL
  rw [f0, f1, f2, f3, ← e0, ← e1, ← e2, ← e3]
  have s0 : (l.drop 24).take 8 = l.drop 24 := List.take_of_length_le (by simp; omega)
  have d1 : l.drop 16 = (l.drop 16).take 8 ++ l.drop 24 := by have := (List.take_append_drop 8 (l.drop 16)).symm; rwa [List.drop_drop] at this
  have d2 : l.drop 8 = (l.drop 8).take 8 ++ l.drop 16 := by have := (List.take_append_drop 8 (l.drop 8)).symm; rwa [List.drop_drop] at this
  have d3 : l.drop 0 = (l.drop 0).take 8 ++ l.drop 8 := by have := (List.take_append_drop 8 (l.drop 0)).symm; rwa [List.drop_drop] at this
  rw [s0, ← d1, ← d2, ← d3, List.drop_zero]

section
variable {H : Type} {enc : TypeId × Value → H} {P : Program} {W : World}
/-- A number that came in. -/
theorem num_in {r : Reach} {b0 t e : Nat} {v : Value} {d : DataW H} {p : List MemPlace} (ht : P.underlying t = some (.array 32 e)) (he : P.underlying e = some (.int .u8)) (hc : P.cellsOf e = 1) (hct : P.cellsOf t = 32)
    (hval : Value.okWide P W r b0 t v) (h : DataW.Trod enc P W 0 (fun _ => true) true t v d p) : ∃ N, N < 115792089237316195423570985008687907853269984665640564039457584007913129639936 ∧ v = num N := by
  simp only [Value.okWide, ht] at hval
  obtain ⟨cs, rfl, hsz, _⟩ := hval
  obtain ⟨fuel, hf⟩ := h
  obtain ⟨xs, m, _, _, hlen, hxl, hall⟩ := DataW.trod_array ht hf
  rw [hct] at hlen
  have hl : cs.toList.length = 32 := by rw [Array.length_toList]; exact hsz.trans hct
  obtain ⟨N, hN, e1⟩ := num_of hl fun i hi => by
    have h1 := hall i hi
    rw [hc, Nat.mul_one] at h1
    obtain ⟨x, hx⟩ : ∃ x, xs[i]? = some x := ⟨xs[i]'(by omega), List.getElem?_eq_getElem (by omega)⟩
    rw [hx] at h1
    obtain ⟨z, ez, _, wz⟩ := DataW.trod_int he h1
    have hb : 0 ≤ z ∧ z ≤ 255 := bounds_u8 wz
    refine ⟨z.toNat, by omega, ?_⟩
    have hz : cs.toList[i]? = some (Value.int .u8 z) := by
      have : (cs.toList.drop i).take 1 = [Value.int .u8 z] := ez
      have h2 : ((cs.toList.drop i).take 1)[0]? = some (Value.int .u8 z) := by rw [this]; rfl
      rw [List.getElem?_take, if_pos (by omega), List.getElem?_drop] at h2
      exact h2
    rw [hz]
    show some (Value.int .u8 z) = some (Value.int .u8 ((z.toNat : Nat) : Int))
    rw [Int.toNat_of_nonneg hb.1]
  exact ⟨N, hN, by rw [← Array.toArray_toList (xs := cs), e1]⟩
end
end Go.Proofs.Ytmpjigghgedjbaa
