/-
  Package field, fourth text: sums of products, the product.
-/
import Derived.Test.YtmpjigghgedjbaaFc
import Derived.Lib.Mul64
namespace Go.Proofs.Ytmpjigghgedjbaa
open Go Go.RowKit Go.V
set_option linter.unusedSimpArgs false
set_option linter.unusedVariables false

theorem mul64_c (x y : Nat) (hx : x < 18446744073709551616) (hy : y < 18446744073709551616) (w : World) :
    Calls Try.prog 100 #[W1 x, W1 y] w (Ret fun v w' => v = .tuple #[W1 (x * y / 18446744073709551616), W1 (x * y % 18446744073709551616)] ∧ Grow w w') := by
  refine V.calls (args := [_, _]) Try.func100 rfl Try.ntmps100 rfl rfl ?_
  have ha := Lib.half_mul_le (a := x / 4294967296) (b := y / 4294967296) (by omega) (by omega)
  have hb := Lib.half_mul_le (a := x / 4294967296) (b := y % 4294967296) (by omega) (by omega)
  have hc := Lib.half_mul_le (a := x % 4294967296) (b := y / 4294967296) (by omega) (by omega)
  have hd := Lib.half_mul_le (a := x % 4294967296) (b := y % 4294967296) (by omega) (by omega)
  have hl := (Lib.mul64_hi x y hx hy).2.2.2
  repeat (first | (refine TL.isMove ?_; first | refine TL.pure rfl rfl ?_) | (refine TL.isAsg ?_; first | refine TL.pure rfl rfl ?_) | (refine TL.isAdd ?_; first | refine TL.addI rfl rfl (by omega) (by omega) rfl ?_ | refine TL.addU rfl rfl rfl (by omega) rfl ?_ | refine TL.addW rfl rfl rfl rfl ?_ | refine TL.pure rfl rfl ?_) | (refine TL.isMul ?_; first | refine TL.mulI rfl rfl (by omega) (by omega) rfl ?_ | refine TL.mulU rfl rfl rfl (by omega) rfl ?_ | refine TL.mulW rfl rfl rfl rfl ?_ | refine TL.pure rfl rfl ?_) | (refine TL.isAnd ?_; first | refine TL.andU rfl rfl rfl rfl (by omega) (by omega) rfl ?_) | refine TL.nil ?_ | refine thenQ_normal ?_ | refine T.seq ?_ | refine T.region ?_ | refine T.block ?_ | refine blockQ_normal ?_ | (refine TL.isShr ?_; first | refine TL.shrU rfl rfl rfl rfl rfl rfl ?_) | (refine TL.isBin ?_; first | refine TL.pure rfl rfl ?_ | refine TL.eqNil rfl rfl rfl ?_ | refine TL.neNil rfl rfl rfl ?_) | refine T.ret ?_ | refine T.skip ?_ | refine T.exit ?_ | refine thenQ_ret ?_ | refine thenQ_exit ?_ | refine blockQ_hit ?_ | refine blockQ_miss rfl ?_ | refine blockQ_ret ?_ | refine loopQ_ret ?_ | refine loopQ_exit ?_ | refine TL.pure rfl rfl ?_)
  refine ret2 rfl rfl ⟨_, rfl, ?_, yG⟩
  rw [hl]

/-- A sum of products, as its two words. -/
abbrev wide (s : Nat) : Value := .agg #[W1 (s / 18446744073709551616), W1 (s % 18446744073709551616)]

/-- Add64, which the model answers. -/
theorem add64_row : Extern.allRows.lookup "math/bits.Add64" = some (Extern.MathBitsCarry.rows[0]'(by decide)).2 := by kernel_rfl
theorem add64_run {P : Program} (x y c : Nat) (hc : c ≤ 1) (w : World) : ((Extern.MathBitsCarry.rows[0]'(by decide)).2 #[W1 x, W1 y, W1 c]).run P w = .ok (.tuple #[W1 ((x + y + c) % 18446744073709551616), W1 ((x + y + c) / 18446744073709551616)]) w := by
  obtain rfl | rfl : c = 0 ∨ c = 1 := by omega
  · rfl
  · rfl

theorem plus_c (s a b : Nat) (ha : a < 18446744073709551616) (hb : b < 18446744073709551616) (hs : s + a * b < 340282366920938463463374607431768211456) (w : World) :
    Calls Try.prog 94 #[wide s, W1 a, W1 b] w (Ret fun v w' => v = wide (s + a * b) ∧ Grow w w') := by
  refine V.calls (args := [_, _, _]) Try.func94 rfl Try.ntmps94 rfl rfl ?_
  repeat (first | (refine TL.isMove ?_; first | refine TL.pure rfl rfl ?_) | (refine TL.isAsg ?_; first | refine TL.pure rfl rfl ?_) | (refine TL.isLoad ?_; first | refine TL.load1 rfl yM rfl ?_ | refine TL.loadW rfl yB (by exact rfl) rfl ?_ | refine TL.loadN rfl yB (by exact rfl) (by exact rfl) rfl ?_) | (refine TL.isField ?_; first | refine TL.fieldAddr rfl rfl ?_) | refine TL.nil ?_ | refine thenQ_normal ?_ | refine T.seq ?_ | refine T.region ?_ | refine T.block ?_ | refine blockQ_normal ?_ | (refine TL.isStore ?_; first | (refine TL.store1 rfl rfl yB (by exact rfl) (by exact rfl) (by exact rfl) ?_; intro w' hu hbk hsz) | (refine TL.storeWh rfl rfl yB (by exact rfl) (by exact rfl) (by exact rfl) ?_; intro w' hu hbk hsz) | (refine TL.storeN rfl rfl yB (by exact rfl) (by exact rfl) (by exact rfl) (by exact rfl) ?_; intro w' hu hbk hsz)) | (refine TL.isBox ?_; first | (refine TL.box rfl rfl rfl ?_; intro bk w' hg hbk hsz hsz')) | (refine TL.isAlloc ?_; first | (refine TL.alloc rfl rfl ?_; intro bk w' hg hbk hsz hsz')) | (refine TL.isBuild ?_; first | refine TL.build rfl rfl rfl ?_ | refine TL.buildArr rfl rfl rfl ?_) | refine T.ret ?_ | refine T.skip ?_ | refine T.exit ?_ | refine thenQ_ret ?_ | refine thenQ_exit ?_ | refine blockQ_hit ?_ | refine blockQ_miss rfl ?_ | refine blockQ_ret ?_ | refine loopQ_ret ?_ | refine loopQ_exit ?_ | refine TL.pure rfl rfl ?_)
  refine TL.call rfl (mul64_c a b ha hb _) rfl ?_
  rintro _ w2 ⟨rfl, hg2⟩
  generalize a * b = p at *
  repeat (first | (refine TL.isMove ?_; first | refine TL.pure rfl rfl ?_) | (refine TL.isAsg ?_; first | refine TL.pure rfl rfl ?_) | (refine TL.isLoad ?_; first | refine TL.load1 rfl yM rfl ?_ | refine TL.loadW rfl yB (by exact rfl) rfl ?_ | refine TL.loadN rfl yB (by exact rfl) (by exact rfl) rfl ?_) | (refine TL.isField ?_; first | refine TL.fieldAddr rfl rfl ?_) | refine TL.nil ?_ | refine thenQ_normal ?_ | refine T.seq ?_ | refine T.region ?_ | refine T.block ?_ | refine blockQ_normal ?_ | (refine TL.isStore ?_; first | (refine TL.store1 rfl rfl yB (by exact rfl) (by exact rfl) (by exact rfl) ?_; intro w' hu hbk hsz) | (refine TL.storeWh rfl rfl yB (by exact rfl) (by exact rfl) (by exact rfl) ?_; intro w' hu hbk hsz) | (refine TL.storeN rfl rfl yB (by exact rfl) (by exact rfl) (by exact rfl) (by exact rfl) ?_; intro w' hu hbk hsz)) | (refine TL.isBox ?_; first | (refine TL.box rfl rfl rfl ?_; intro bk w' hg hbk hsz hsz')) | (refine TL.isAlloc ?_; first | (refine TL.alloc rfl rfl ?_; intro bk w' hg hbk hsz hsz')) | (refine TL.isBuild ?_; first | refine TL.build rfl rfl rfl ?_ | refine TL.buildArr rfl rfl rfl ?_) | refine T.ret ?_ | refine T.skip ?_ | refine T.exit ?_ | refine thenQ_ret ?_ | refine thenQ_exit ?_ | refine blockQ_hit ?_ | refine blockQ_miss rfl ?_ | refine blockQ_ret ?_ | refine loopQ_ret ?_ | refine loopQ_exit ?_ | refine TL.pure rfl rfl ?_)
  refine TL.ext rfl add64_row (add64_run _ _ 0 (by omega) _) rfl ?_
  repeat (first | (refine TL.isMove ?_; first | refine TL.pure rfl rfl ?_) | (refine TL.isAsg ?_; first | refine TL.pure rfl rfl ?_) | (refine TL.isLoad ?_; first | refine TL.load1 rfl yM rfl ?_ | refine TL.loadW rfl yB (by exact rfl) rfl ?_ | refine TL.loadN rfl yB (by exact rfl) (by exact rfl) rfl ?_) | (refine TL.isField ?_; first | refine TL.fieldAddr rfl rfl ?_) | refine TL.nil ?_ | refine thenQ_normal ?_ | refine T.seq ?_ | refine T.region ?_ | refine T.block ?_ | refine blockQ_normal ?_ | (refine TL.isStore ?_; first | (refine TL.store1 rfl rfl yB (by exact rfl) (by exact rfl) (by exact rfl) ?_; intro w' hu hbk hsz) | (refine TL.storeWh rfl rfl yB (by exact rfl) (by exact rfl) (by exact rfl) ?_; intro w' hu hbk hsz) | (refine TL.storeN rfl rfl yB (by exact rfl) (by exact rfl) (by exact rfl) (by exact rfl) ?_; intro w' hu hbk hsz)) | (refine TL.isBox ?_; first | (refine TL.box rfl rfl rfl ?_; intro bk w' hg hbk hsz hsz')) | (refine TL.isAlloc ?_; first | (refine TL.alloc rfl rfl ?_; intro bk w' hg hbk hsz hsz')) | (refine TL.isBuild ?_; first | refine TL.build rfl rfl rfl ?_ | refine TL.buildArr rfl rfl rfl ?_) | refine T.ret ?_ | refine T.skip ?_ | refine T.exit ?_ | refine thenQ_ret ?_ | refine thenQ_exit ?_ | refine blockQ_hit ?_ | refine blockQ_miss rfl ?_ | refine blockQ_ret ?_ | refine loopQ_ret ?_ | refine loopQ_exit ?_ | refine TL.pure rfl rfl ?_)
  refine TL.ext rfl add64_row (add64_run _ _ _ (by omega) _) rfl ?_
  repeat (first | (refine TL.isMove ?_; first | refine TL.pure rfl rfl ?_) | (refine TL.isAsg ?_; first | refine TL.pure rfl rfl ?_) | (refine TL.isLoad ?_; first | refine TL.load1 rfl yM rfl ?_ | refine TL.loadW rfl yB (by exact rfl) rfl ?_ | refine TL.loadN rfl yB (by exact rfl) (by exact rfl) rfl ?_) | (refine TL.isField ?_; first | refine TL.fieldAddr rfl rfl ?_) | refine TL.nil ?_ | refine thenQ_normal ?_ | refine T.seq ?_ | refine T.region ?_ | refine T.block ?_ | refine blockQ_normal ?_ | (refine TL.isStore ?_; first | (refine TL.store1 rfl rfl yB (by exact rfl) (by exact rfl) (by exact rfl) ?_; intro w' hu hbk hsz) | (refine TL.storeWh rfl rfl yB (by exact rfl) (by exact rfl) (by exact rfl) ?_; intro w' hu hbk hsz) | (refine TL.storeN rfl rfl yB (by exact rfl) (by exact rfl) (by exact rfl) (by exact rfl) ?_; intro w' hu hbk hsz)) | (refine TL.isBox ?_; first | (refine TL.box rfl rfl rfl ?_; intro bk w' hg hbk hsz hsz')) | (refine TL.isAlloc ?_; first | (refine TL.alloc rfl rfl ?_; intro bk w' hg hbk hsz hsz')) | (refine TL.isBuild ?_; first | refine TL.build rfl rfl rfl ?_ | refine TL.buildArr rfl rfl rfl ?_) | refine T.ret ?_ | refine T.skip ?_ | refine T.exit ?_ | refine thenQ_ret ?_ | refine thenQ_exit ?_ | refine blockQ_hit ?_ | refine blockQ_miss rfl ?_ | refine blockQ_ret ?_ | refine loopQ_ret ?_ | refine loopQ_exit ?_ | refine TL.pure rfl rfl ?_)
  have e1 : (s / 18446744073709551616 + p / 18446744073709551616 + (s % 18446744073709551616 + p % 18446744073709551616 + 0) / 18446744073709551616) % 18446744073709551616 = (s + p) / 18446744073709551616 := by omega
  have e2 : (s % 18446744073709551616 + p % 18446744073709551616 + 0) % 18446744073709551616 = (s + p) % 18446744073709551616 := by omega
  refine retC rfl (load_whole (by assumption) rfl) ⟨_, rfl, ?_, yG⟩
  show Value.agg #[W1 _, W1 _] = _
  rw [e1, e2]

theorem upper_c (s : Nat) (hs : s < 340282366920938463463374607431768211456) (w : World) :
    Calls Try.prog 95 #[wide s] w (Ret fun v w' => v = W1 (s / 2251799813685248 % 18446744073709551616) ∧ Grow w w') := by
  refine V.calls (args := [_]) Try.func95 rfl Try.ntmps95 rfl rfl ?_
  repeat (first | (refine TL.isAsg ?_; first | refine TL.pure rfl rfl ?_) | (refine TL.isLoad ?_; first | refine TL.load1 rfl yM rfl ?_ | refine TL.loadW rfl yB (by exact rfl) rfl ?_ | refine TL.loadN rfl yB (by exact rfl) (by exact rfl) rfl ?_) | (refine TL.isField ?_; first | refine TL.fieldAddr rfl rfl ?_) | refine TL.nil ?_ | refine thenQ_normal ?_ | refine T.seq ?_ | refine T.region ?_ | refine T.block ?_ | refine blockQ_normal ?_ | (refine TL.isOr ?_; first | refine TL.orM rfl rfl rfl rfl rfl (by omega) (by omega) rfl rfl ?_ | refine TL.orMW rfl rfl rfl rfl rfl (by omega) rfl rfl ?_ | refine TL.orL rfl rfl rfl rfl rfl (by omega) rfl rfl ?_) | (refine TL.isShl ?_; first | refine TL.shlU rfl rfl rfl rfl rfl (by omega) rfl ?_ | refine TL.shlW rfl rfl rfl rfl rfl rfl ?_) | (refine TL.isShr ?_; first | refine TL.shrU rfl rfl rfl rfl rfl rfl ?_) | (refine TL.isBin ?_; first | refine TL.pure rfl rfl ?_ | refine TL.eqNil rfl rfl rfl ?_ | refine TL.neNil rfl rfl rfl ?_) | (refine TL.isBox ?_; first | (refine TL.box rfl rfl rfl ?_; intro bk w' hg hbk hsz hsz')) | refine T.ret ?_ | refine T.skip ?_ | refine T.exit ?_ | refine thenQ_ret ?_ | refine thenQ_exit ?_ | refine blockQ_hit ?_ | refine blockQ_miss rfl ?_ | refine blockQ_ret ?_ | refine loopQ_ret ?_ | refine loopQ_exit ?_ | refine TL.pure rfl rfl ?_)
  refine ret1 rfl ⟨_, rfl, ?_, yG⟩
  rw [show s / 18446744073709551616 * 8192 % 18446744073709551616 + s % 18446744073709551616 / 2251799813685248 = s / 2251799813685248 % 18446744073709551616 by omega]
end Go.Proofs.Ytmpjigghgedjbaa
