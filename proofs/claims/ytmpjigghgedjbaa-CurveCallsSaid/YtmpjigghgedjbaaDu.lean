import Derived.Test.YtmpjigghgedjbaaDt
import Derived.Test.YtmpjigghgedjbaaDd
import Derived.Test.YtmpjigghgedjbaaDg
import Derived.Test.YtmpjigghgedjbaaDs
set_option linter.unusedSimpArgs false
set_option linter.unusedVariables false
set_option linter.unusedSectionVars false
set_option maxHeartbeats 16000000
set_option maxRecDepth 100000
namespace Go.Proofs.Ytmpjigghgedjbaa
open Go Go.RowKit Go.V Go.ChangeShapes Go.WideShapes Go.ChangeAt
theorem b8_of {l : List Value} (hl : l.length = 8) (h : ∀ i, i < 8 → ∃ z : Nat, z < 256 ∧ l[i]? = some (B1 z)) : ∃ x, x < 18446744073709551616 ∧ l = b8 x := by
 match l, hl with
 | [a0, a1, a2, a3, a4, a5, a6, a7], _ =>
  obtain ⟨z0, h0, e0⟩ := h 0 (by omega)
  obtain ⟨z1, h1, e1⟩ := h 1 (by omega)
  obtain ⟨z2, h2, e2⟩ := h 2 (by omega)
  obtain ⟨z3, h3, e3⟩ := h 3 (by omega)
  obtain ⟨z4, h4, e4⟩ := h 4 (by omega)
  obtain ⟨z5, h5, e5⟩ := h 5 (by omega)
  obtain ⟨z6, h6, e6⟩ := h 6 (by omega)
  obtain ⟨z7, h7, e7⟩ := h 7 (by omega)
  obtain rfl : a0 = B1 z0 := Option.some.inj e0
  obtain rfl : a1 = B1 z1 := Option.some.inj e1
  obtain rfl : a2 = B1 z2 := Option.some.inj e2
  obtain rfl : a3 = B1 z3 := Option.some.inj e3
  obtain rfl : a4 = B1 z4 := Option.some.inj e4
  obtain rfl : a5 = B1 z5 := Option.some.inj e5
  obtain rfl : a6 = B1 z6 := Option.some.inj e6
  obtain rfl : a7 = B1 z7 := Option.some.inj e7
  obtain ⟨y6, hy6⟩ : ∃ y, y = z6 + 256 * z7 := ⟨_, rfl⟩
  have b6 : y6 < 65536 := by omega
  obtain ⟨y5, hy5⟩ : ∃ y, y = z5 + 256 * y6 := ⟨_, rfl⟩
  have b5 : y5 < 16777216 := by omega
  obtain ⟨y4, hy4⟩ : ∃ y, y = z4 + 256 * y5 := ⟨_, rfl⟩
  have b4 : y4 < 4294967296 := by omega
  obtain ⟨y3, hy3⟩ : ∃ y, y = z3 + 256 * y4 := ⟨_, rfl⟩
  have b3 : y3 < 1099511627776 := by omega
  obtain ⟨y2, hy2⟩ : ∃ y, y = z2 + 256 * y3 := ⟨_, rfl⟩
  have b2 : y2 < 281474976710656 := by omega
  obtain ⟨y1, hy1⟩ : ∃ y, y = z1 + 256 * y2 := ⟨_, rfl⟩
  have b1 : y1 < 72057594037927936 := by omega
  obtain ⟨y0, hy0⟩ : ∃ y, y = z0 + 256 * y1 := ⟨_, rfl⟩
  have b0 : y0 < 18446744073709551616 := by omega
  refine ⟨y0, b0, ?_⟩
  have g1 : y0 / 256 = y1 := by omega
  have g2 : y0 / 65536 = y2 := by rw [show 65536 = 256 * 256 from rfl, ← Nat.div_div_eq_div_mul, g1]; omega
  have g3 : y0 / 16777216 = y3 := by rw [show 16777216 = 65536 * 256 from rfl, ← Nat.div_div_eq_div_mul, g2]; omega
  have g4 : y0 / 4294967296 = y4 := by rw [show 4294967296 = 16777216 * 256 from rfl, ← Nat.div_div_eq_div_mul, g3]; omega
  have g5 : y0 / 1099511627776 = y5 := by rw [show 1099511627776 = 4294967296 * 256 from rfl, ← Nat.div_div_eq_div_mul, g4]; omega
  have g6 : y0 / 281474976710656 = y6 := by rw [show 281474976710656 = 1099511627776 * 256 from rfl, ← Nat.div_div_eq_div_mul, g5]; omega
  have g7 : y0 / 72057594037927936 = z7 := by rw [show 72057594037927936 = 281474976710656 * 256 from rfl, ← Nat.div_div_eq_div_mul, g6]; omega
  unfold b8
  rw [g1, g2, g3, g4, g5, g6, g7]
  have f0 : y0 % 256 = z0 := by omega
  have f1 : y1 % 256 = z1 := by omega
  have f2 : y2 % 256 = z2 := by omega
  have f3 : y3 % 256 = z3 := by omega
  have f4 : y4 % 256 = z4 := by omega
  have f5 : y5 % 256 = z5 := by omega
  have f6 : y6 % 256 = z6 := by omega
  have f7 : z7 % 256 = z7 := by omega
  rw [f0, f1, f2, f3, f4, f5, f6, f7]
theorem num_of {l : List Value} (hl : l.length = 32) (h : ∀ i, i < 32 → ∃ z : Nat, z < 256 ∧ l[i]? = some (B1 z)) : ∃ N, N < 115792089237316195423570985008687907853269984665640564039457584007913129639936 ∧ l = numL N := by
 have part : ∀ k, k + 8 ≤ 32 → ∃ x, x < 18446744073709551616 ∧ (l.drop k).take 8 = b8 x := by
  intro k hk
  refine b8_of (by simp; omega) fun i hi => ?_
  obtain ⟨z, hz, e⟩ := h (k + i) (by omega)
  exact ⟨z, hz, by rw [List.getElem?_take, if_pos hi, List.getElem?_drop]; exact e⟩
 obtain ⟨x0, h0, e0⟩ := part 0 (by omega)
 obtain ⟨x1, h1, e1⟩ := part 8 (by omega)
 obtain ⟨x2, h2, e2⟩ := part 16 (by omega)
 obtain ⟨x3, h3, e3⟩ := part 24 (by omega)
 refine ⟨x0 + 18446744073709551616 * x1 + 340282366920938463463374607431768211456 * x2 + 6277101735386680763835789423207666416102355444464034512896 * x3, by omega, ?_⟩
 have f0 : q0 (x0 + 18446744073709551616 * x1 + 340282366920938463463374607431768211456 * x2 + 6277101735386680763835789423207666416102355444464034512896 * x3) = x0 := by unfold q0; omega
 have f1 : q1 (x0 + 18446744073709551616 * x1 + 340282366920938463463374607431768211456 * x2 + 6277101735386680763835789423207666416102355444464034512896 * x3) = x1 := by unfold q1; omega
 have f2 : q2 (x0 + 18446744073709551616 * x1 + 340282366920938463463374607431768211456 * x2 + 6277101735386680763835789423207666416102355444464034512896 * x3) = x2 := by unfold q2; omega
 have f3 : q3 (x0 + 18446744073709551616 * x1 + 340282366920938463463374607431768211456 * x2 + 6277101735386680763835789423207666416102355444464034512896 * x3) = x3 := by unfold q3; omega
 unfold numL
 rw [f0, f1, f2, f3, ← e0, ← e1, ← e2, ← e3]
 have s0 : (l.drop 24).take 8 = l.drop 24 := List.take_of_length_le (by simp; omega)
 have d1 : l.drop 16 = (l.drop 16).take 8 ++ l.drop 24 := by have := (List.take_append_drop 8 (l.drop 16)).symm; rwa [List.drop_drop] at this
 have d2 : l.drop 8 = (l.drop 8).take 8 ++ l.drop 16 := by have := (List.take_append_drop 8 (l.drop 8)).symm; rwa [List.drop_drop] at this
 have d3 : l.drop 0 = (l.drop 0).take 8 ++ l.drop 8 := by have := (List.take_append_drop 8 (l.drop 0)).symm; rwa [List.drop_drop] at this
 rw [s0, ← d1, ← d2, ← d3, List.drop_zero]
section
variable {H : Type} {enc : TypeId × Value → H} {P : Program} {W : World}
theorem num_in {r : Reach} {b0 t e : Nat} {v : Value} {d : DataW H} {p : List MemPlace} (ht : P.underlying t = some (.array 32 e)) (he : P.underlying e = some (.int .u8)) (hc : P.cellsOf e = 1) (hct : P.cellsOf t = 32)
  (hval : Value.okWide P W r b0 t v) (h : DataW.Trod enc P W 0 (fun _ => true) true t v d p) : ∃ N, N < 115792089237316195423570985008687907853269984665640564039457584007913129639936 ∧ v = num N := by
 simp only [Value.okWide, ht] at hval
 obtain ⟨cs, rfl, hsz, _⟩ := hval
 obtain ⟨fuel, hf⟩ := h
 obtain ⟨xs, m, _, _, hlen, hxl, hall⟩ := DataW.trod_array ht hf
 rw [hct] at hlen
 have hl : cs.toList.length = 32 := by rw [Array.length_toList]; exact hsz.trans hct
 obtain ⟨N, hN, e1⟩ := num_of hl fun i hi => by
  have h1 := hall i hi
  rw [hc, Nat.mul_one] at h1
  obtain ⟨x, hx⟩ : ∃ x, xs[i]? = some x := ⟨xs[i]'(by omega), List.getElem?_eq_getElem (by omega)⟩
  rw [hx] at h1
  obtain ⟨z, ez, _, wz⟩ := DataW.trod_int he h1
  have hb : 0 ≤ z ∧ z ≤ 255 := bounds_u8 wz
  refine ⟨z.toNat, by omega, ?_⟩
  have hz : cs.toList[i]? = some (Value.int .u8 z) := by
   have : (cs.toList.drop i).take 1 = [Value.int .u8 z] := ez
   have h2 : ((cs.toList.drop i).take 1)[0]? = some (Value.int .u8 z) := by rw [this]; rfl
   rw [List.getElem?_take, if_pos (by omega), List.getElem?_drop] at h2
   exact h2
  rw [hz]
  show some (Value.int .u8 z) = some (Value.int .u8 ((z.toNat : Nat) : Int))
  rw [Int.toNat_of_nonneg hb.1]
 exact ⟨N, hN, by rw [← Array.toArray_toList (xs := cs), e1]⟩
end
end Go.Proofs.Ytmpjigghgedjbaa
namespace Go.Proofs.Ytmpjigghgedjbaa
open Go Go.RowKit Go.V Go.ChangeShapes Go.WideShapes Go.ChangeAt
section
variable {H : Type} {enc : TypeId × Value → H} {P : Program} {W : World}
theorem num_cells {t e : Nat} {l : List Value} {fuel : Nat} {x : DataW H × List MemPlace} (ht : P.underlying t = some (.array 32 e)) (he : P.underlying e = some (.int .u8)) (hc : P.cellsOf e = 1) (hl : l.length = 32)
  (hf : DataW.trod enc P W 0 (fun _ => true) true fuel t l = some x) : ∃ N, N < 115792089237316195423570985008687907853269984665640564039457584007913129639936 ∧ l = numL N := by
 obtain ⟨xs, m, _, _, hlen, hxl, hall⟩ := DataW.trod_array ht hf
 exact num_of hl fun i hi => by
  have h1 := hall i hi
  rw [hc, Nat.mul_one] at h1
  obtain ⟨x, hx⟩ : ∃ x, xs[i]? = some x := ⟨xs[i]'(by omega), List.getElem?_eq_getElem (by omega)⟩
  rw [hx] at h1
  obtain ⟨z, ez, _, wz⟩ := DataW.trod_int he h1
  have hb : 0 ≤ z ∧ z ≤ 255 := bounds_u8 wz
  refine ⟨z.toNat, by omega, ?_⟩
  have hz : l[i]? = some (Value.int .u8 z) := by
   have : (l.drop i).take 1 = [Value.int .u8 z] := ez
   have h2 : ((l.drop i).take 1)[0]? = some (Value.int .u8 z) := by rw [this]; rfl
   rw [List.getElem?_take, if_pos (by omega), List.getElem?_drop] at h2
   exact h2
  rw [hz]
  show some (Value.int .u8 z) = some (Value.int .u8 ((z.toNat : Nat) : Int))
  rw [Int.toNat_of_nonneg hb.1]
theorem pt_in {r : Reach} {b0 t nt e : Nat} {f0 f1 : Field} {v : Value} {d : DataW H} {p : List MemPlace} (ht : P.underlying t = some (.struct #[f0, f1])) (t0 : f0.type = nt) (t1 : f1.type = nt) (o0 : f0.offset = 0) (o1 : f1.offset = 32)
  (hn : P.underlying nt = some (.array 32 e)) (he : P.underlying e = some (.int .u8)) (hc : P.cellsOf e = 1) (hcn : P.cellsOf nt = 32) (hct : P.cellsOf t = 64)
  (hval : Value.okWide P W r b0 t v) (h : DataW.Trod enc P W 0 (fun _ => true) true t v d p) : ∃ X Y, X < 115792089237316195423570985008687907853269984665640564039457584007913129639936 ∧ Y < 115792089237316195423570985008687907853269984665640564039457584007913129639936 ∧ v = pt (X, Y) := by
 simp only [Value.okWide, ht] at hval
 obtain ⟨cs, rfl, hsz, _⟩ := hval
 obtain ⟨fuel, hf⟩ := h
 obtain ⟨xs, n, _, _, hlen, hxl, hall⟩ := DataW.trod_struct ht hf
 have hl : cs.toList.length = 64 := by rw [Array.length_toList]; exact hsz.trans hct
 have h0 := hall 0 f0 rfl
 have h1 := hall 1 f1 rfl
 have hxl : xs.length = 2 := hxl
 rw [t0, o0, hcn, List.drop_zero, List.getElem?_eq_getElem (by omega)] at h0
 rw [t1, o1, hcn, List.getElem?_eq_getElem (by omega)] at h1
 have hl : (Value.agg cs).cells.toList.length = 64 := hl
 obtain ⟨X, hX, e0⟩ := num_cells hn he hc (by rw [List.length_take]; omega) h0
 obtain ⟨Y, hY, e1⟩ := num_cells hn he hc (by rw [List.length_take, List.length_drop]; omega) h1
 refine ⟨X, Y, hX, hY, ?_⟩
 have e2 : cs.toList = numL X ++ numL Y := by
  have e0 : cs.toList.take 32 = numL X := e0
  have e1 : (cs.toList.drop 32).take 32 = numL Y := e1
  have hl : cs.toList.length = 64 := hl
  rw [List.take_of_length_le (by rw [List.length_drop]; omega)] at e1
  rw [← e0, ← e1, List.take_append_drop]
 show Value.agg cs = .agg (numL X ++ numL Y).toArray
 rw [← e2, Array.toArray_toList]
end
end Go.Proofs.Ytmpjigghgedjbaa
namespace Go.Proofs.Ytmpjigghgedjbaa.lawCurveCalls
open Go Go.RowKit Go.V Go.ChangeShapes Go.WideShapes Go.ChangeAt
theorem lifted (os : Os) (started : os.Started) (H : Type) (enc : TypeId × Value → H) :
  ReturnsInHanded {} Try.checked os 13 .any (Rows.curveCallsSpec.pre6 enc Try.prog Try.f13 Rows.curveCallsRow.domain false) (Rows.curveCallsSpec.post enc Try.prog Try.f13 false true false false) := by
 refine returnsInHanded_of_change (C := Try.checked) godebug_own started (by kernel_rfl) Try.func13
  (ChangeSpec.witness6 (enc := enc) (C := Try.checked) false ⟨#[], #[.agg #[.int .u8 0, .int .u8 0, .int .u8 0, .int .u8 0, .int .u8 0, .int .u8 0, .int .u8 0, .int .u8 0, .int .u8 0, .int .u8 0, .int .u8 0, .int .u8 0, .int .u8 0, .int .u8 0, .int .u8 0, .int .u8 0, .int .u8 0, .int .u8 0, .int .u8 0, .int .u8 0, .int .u8 0, .int .u8 0, .int .u8 0, .int .u8 0, .int .u8 0, .int .u8 0, .int .u8 0, .int .u8 0, .int .u8 0, .int .u8 0, .int .u8 0, .int .u8 0, .int .u8 0, .int .u8 0, .int .u8 0, .int .u8 0, .int .u8 0, .int .u8 0, .int .u8 0, .int .u8 0, .int .u8 0, .int .u8 0, .int .u8 0, .int .u8 0, .int .u8 0, .int .u8 0, .int .u8 0, .int .u8 0, .int .u8 0, .int .u8 0, .int .u8 0, .int .u8 0, .int .u8 0, .int .u8 0, .int .u8 0, .int .u8 0, .int .u8 0, .int .u8 0, .int .u8 0, .int .u8 0, .int .u8 0, .int .u8 0, .int .u8 0, .int .u8 0], .agg #[.int .u8 0, .int .u8 0, .int .u8 0, .int .u8 0, .int .u8 0, .int .u8 0, .int .u8 0, .int .u8 0, .int .u8 0, .int .u8 0, .int .u8 0, .int .u8 0, .int .u8 0, .int .u8 0, .int .u8 0, .int .u8 0, .int .u8 0, .int .u8 0, .int .u8 0, .int .u8 0, .int .u8 0, .int .u8 0, .int .u8 0, .int .u8 0, .int .u8 0, .int .u8 0, .int .u8 0, .int .u8 0, .int .u8 0, .int .u8 0, .int .u8 0, .int .u8 0, .int .u8 0, .int .u8 0, .int .u8 0, .int .u8 0, .int .u8 0, .int .u8 0, .int .u8 0, .int .u8 0, .int .u8 0, .int .u8 0, .int .u8 0, .int .u8 0, .int .u8 0, .int .u8 0, .int .u8 0, .int .u8 0, .int .u8 0, .int .u8 0, .int .u8 0, .int .u8 0, .int .u8 0, .int .u8 0, .int .u8 0, .int .u8 0, .int .u8 0, .int .u8 0, .int .u8 0, .int .u8 0, .int .u8 0, .int .u8 0, .int .u8 0, .int .u8 0], .agg #[.int .u8 0, .int .u8 0, .int .u8 0, .int .u8 0, .int .u8 0, .int .u8 0, .int .u8 0, .int .u8 0, .int .u8 0, .int .u8 0, .int .u8 0, .int .u8 0, .int .u8 0, .int .u8 0, .int .u8 0, .int .u8 0, .int .u8 0, .int .u8 0, .int .u8 0, .int .u8 0, .int .u8 0, .int .u8 0, .int .u8 0, .int .u8 0, .int .u8 0, .int .u8 0, .int .u8 0, .int .u8 0, .int .u8 0, .int .u8 0, .int .u8 0, .int .u8 0], .agg #[.int .u8 0, .int .u8 0, .int .u8 0, .int .u8 0, .int .u8 0, .int .u8 0, .int .u8 0, .int .u8 0, .int .u8 0, .int .u8 0, .int .u8 0, .int .u8 0, .int .u8 0, .int .u8 0, .int .u8 0, .int .u8 0, .int .u8 0, .int .u8 0, .int .u8 0, .int .u8 0, .int .u8 0, .int .u8 0, .int .u8 0, .int .u8 0, .int .u8 0, .int .u8 0, .int .u8 0, .int .u8 0, .int .u8 0, .int .u8 0, .int .u8 0, .int .u8 0], .agg #[.int .u8 0, .int .u8 0, .int .u8 0, .int .u8 0, .int .u8 0, .int .u8 0, .int .u8 0, .int .u8 0, .int .u8 0, .int .u8 0, .int .u8 0, .int .u8 0, .int .u8 0, .int .u8 0, .int .u8 0, .int .u8 0, .int .u8 0, .int .u8 0, .int .u8 0, .int .u8 0, .int .u8 0, .int .u8 0, .int .u8 0, .int .u8 0, .int .u8 0, .int .u8 0, .int .u8 0, .int .u8 0, .int .u8 0, .int .u8 0, .int .u8 0, .int .u8 0]], []⟩ 8 (by kernel_rfl) (by kernel_rfl) (by kernel_rfl) (by kernel_rfl)) ?_
 intro W base args ds gs before hval0 hW hcnd _
 have hval : ∀ (j : Nat) t v, Try.f13.params[j]? = some t → args[j]? = some v → Value.okWide Try.prog W .any base t v := hval0
 have hW' := hW
 obtain ⟨p, q, hA0, hV, rfl, hfz, hnd⟩ := hW
 have hA : DataW.TrodAll enc Try.prog W 0 (fun _ => true) true Try.f13.params.toList args.toList ds p := hA0
 have hAll := hA
 rw [Try.params13] at hA hval
 obtain ⟨v0, vs0, d0, ds0, p0, q0, hargs, rfl, rfl, h0, r0⟩ := trodAll_cons hA
 obtain ⟨v1, vs1, d1, ds1, p1, q1, rfl, rfl, rfl, h1, r1⟩ := trodAll_cons r0
 obtain ⟨v2, vs2, d2, ds2, p2, q2, rfl, rfl, rfl, h2, r2⟩ := trodAll_cons r1
 obtain ⟨v3, vs3, d3, ds3, p3, q3, rfl, rfl, rfl, h3, r3⟩ := trodAll_cons r2
 obtain ⟨v4, vs4, d4, ds4, p4, q4, rfl, rfl, rfl, h4, r4⟩ := trodAll_cons r3
 obtain ⟨rfl, rfl, rfl⟩ := trodAll_nil r4
 obtain rfl : args = #[v0, v1, v2, v3, v4] := by cases args; simp_all
 obtain ⟨rfl, rfl⟩ := trodVars_none hV
 obtain ⟨X0, Y0, hX0, hY0, rfl⟩ := pt_in Try.underlying39 rfl rfl rfl rfl Try.underlying23 Try.underlying5 (by kernel_rfl) (by kernel_rfl) (by kernel_rfl) (hval 0 39 v0 rfl rfl) h0
 obtain ⟨X1, Y1, hX1, hY1, rfl⟩ := pt_in Try.underlying39 rfl rfl rfl rfl Try.underlying23 Try.underlying5 (by kernel_rfl) (by kernel_rfl) (by kernel_rfl) (hval 1 39 v1 rfl rfl) h1
 obtain ⟨N2, hN2, rfl⟩ := num_in Try.underlying23 Try.underlying5 (by kernel_rfl) (by kernel_rfl) (hval 2 23 v2 rfl rfl) h2
 obtain ⟨N3, hN3, rfl⟩ := num_in Try.underlying23 Try.underlying5 (by kernel_rfl) (by kernel_rfl) (hval 3 23 v3 rfl rfl) h3
 obtain ⟨N4, hN4, rfl⟩ := num_in Try.underlying22 Try.underlying5 (by kernel_rfl) (by kernel_rfl) (hval 4 22 v4 rfl rfl) h4
 clear hA0 hval0
 refine (calls5_c (X0, Y0) (X1, Y1) N2 N3 N4 ⟨hX0, hY0⟩ ⟨hX1, hY1⟩ hN2 hN3 hN4 W).mono fun e W' ⟨v, he, hv, hg⟩ => ?_
 subst he; subst hv
 exact ⟨_, rfl, _, _, _, [], _, [], hW', trodAll_mk1 (shut_bool Try.underlying4 _), kept_all laid_out hg.1 _ _ _ _ (by kernel_rfl) hAll, rfl, hg.1.frame _, fun h => by cases h⟩
theorem proved : Rows.CurveCallsSaid :=
 OpenClaim.holds_of_wide 13 Try.f13 rfl rfl rfl rfl rfl rfl rfl ⟨rfl, rfl, rfl, rfl, rfl⟩ rfl rfl rfl rfl rfl (by kernel_rfl) Try.func13 (by kernel_rfl)
  (of_decide_eq_true (by kernel_rfl)) (by unfold Func.isWrapper; first | (rw [if_pos (by decide +kernel)]; kernel_rfl) | (rw [if_neg (by decide +kernel)]; exact ⟨rfl, rfl⟩))
  (fun os started H enc _ => lifted os started H enc)
end Go.Proofs.Ytmpjigghgedjbaa.lawCurveCalls
