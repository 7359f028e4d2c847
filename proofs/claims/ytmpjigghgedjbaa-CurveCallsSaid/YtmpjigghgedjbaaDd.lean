import Derived.Test.YtmpjigghgedjbaaDc
import Derived.Test.YtmpjigghgedjbaaRows
import Derived.Lib.Mul64
set_option linter.unusedSimpArgs false
set_option linter.unusedVariables false
set_option linter.unusedSectionVars false
set_option maxHeartbeats 16000000
set_option maxRecDepth 100000
namespace Go.Proofs.Ytmpjigghgedjbaa
open Go.V
instance : Mixed Try.prog := ⟨by kernel_rfl⟩
set_option maxRecDepth 100000
instance : One Try.prog 2 := ⟨by kernel_rfl⟩
instance : IntTy Try.prog 3 .i64 := ⟨by kernel_rfl⟩
instance : One Try.prog 5 := ⟨by kernel_rfl⟩
instance : IntTy Try.prog 5 .u8 := ⟨by kernel_rfl⟩
instance : Agg Try.prog 22 32 := ⟨by kernel_rfl⟩
instance : Zero Try.prog 22 (.agg #[.int .u8 0, .int .u8 0, .int .u8 0, .int .u8 0, .int .u8 0, .int .u8 0, .int .u8 0, .int .u8 0, .int .u8 0, .int .u8 0, .int .u8 0, .int .u8 0, .int .u8 0, .int .u8 0, .int .u8 0, .int .u8 0, .int .u8 0, .int .u8 0, .int .u8 0, .int .u8 0, .int .u8 0, .int .u8 0, .int .u8 0, .int .u8 0, .int .u8 0, .int .u8 0, .int .u8 0, .int .u8 0, .int .u8 0, .int .u8 0, .int .u8 0, .int .u8 0]) := ⟨by kernel_rfl⟩
instance : ArrTy Try.prog 22 32 5 1 := ⟨by kernel_rfl⟩
instance : Agg Try.prog 23 32 := ⟨by kernel_rfl⟩
instance : Zero Try.prog 23 (.agg #[.int .u8 0, .int .u8 0, .int .u8 0, .int .u8 0, .int .u8 0, .int .u8 0, .int .u8 0, .int .u8 0, .int .u8 0, .int .u8 0, .int .u8 0, .int .u8 0, .int .u8 0, .int .u8 0, .int .u8 0, .int .u8 0, .int .u8 0, .int .u8 0, .int .u8 0, .int .u8 0, .int .u8 0, .int .u8 0, .int .u8 0, .int .u8 0, .int .u8 0, .int .u8 0, .int .u8 0, .int .u8 0, .int .u8 0, .int .u8 0, .int .u8 0, .int .u8 0]) := ⟨by kernel_rfl⟩
instance : ArrTy Try.prog 23 32 5 1 := ⟨by kernel_rfl⟩
instance : One Try.prog 28 := ⟨by kernel_rfl⟩
instance : IntTy Try.prog 28 .u64 := ⟨by kernel_rfl⟩
instance : Agg Try.prog 39 64 := ⟨by kernel_rfl⟩
instance : Zero Try.prog 39 (.agg #[.int .u8 0, .int .u8 0, .int .u8 0, .int .u8 0, .int .u8 0, .int .u8 0, .int .u8 0, .int .u8 0, .int .u8 0, .int .u8 0, .int .u8 0, .int .u8 0, .int .u8 0, .int .u8 0, .int .u8 0, .int .u8 0, .int .u8 0, .int .u8 0, .int .u8 0, .int .u8 0, .int .u8 0, .int .u8 0, .int .u8 0, .int .u8 0, .int .u8 0, .int .u8 0, .int .u8 0, .int .u8 0, .int .u8 0, .int .u8 0, .int .u8 0, .int .u8 0, .int .u8 0, .int .u8 0, .int .u8 0, .int .u8 0, .int .u8 0, .int .u8 0, .int .u8 0, .int .u8 0, .int .u8 0, .int .u8 0, .int .u8 0, .int .u8 0, .int .u8 0, .int .u8 0, .int .u8 0, .int .u8 0, .int .u8 0, .int .u8 0, .int .u8 0, .int .u8 0, .int .u8 0, .int .u8 0, .int .u8 0, .int .u8 0, .int .u8 0, .int .u8 0, .int .u8 0, .int .u8 0, .int .u8 0, .int .u8 0, .int .u8 0, .int .u8 0]) := ⟨by kernel_rfl⟩
instance : Places Try.prog 39 [(0, 32), (32, 32)] := ⟨by kernel_rfl⟩
instance : FieldAt Try.prog 39 0 0 := ⟨by kernel_rfl⟩
instance : FieldAt Try.prog 39 1 32 := ⟨by kernel_rfl⟩
instance : SliceTy Try.prog 59 5 1 1 := ⟨by kernel_rfl⟩
instance : Agg Try.prog 63 5 := ⟨by kernel_rfl⟩
instance : Zero Try.prog 63 (.agg #[.int .u64 0, .int .u64 0, .int .u64 0, .int .u64 0, .int .u64 0]) := ⟨by kernel_rfl⟩
instance : ArrTy Try.prog 63 5 28 1 := ⟨by kernel_rfl⟩
instance : Agg Try.prog 66 4 := ⟨by kernel_rfl⟩
instance : Zero Try.prog 66 (.agg #[.int .u64 0, .int .u64 0, .int .u64 0, .int .u64 0]) := ⟨by kernel_rfl⟩
instance : ArrTy Try.prog 66 4 28 1 := ⟨by kernel_rfl⟩
instance : IntTy Try.prog 70 .u64 := ⟨by kernel_rfl⟩
instance : Agg Try.prog 75 10 := ⟨by kernel_rfl⟩
instance : Zero Try.prog 75 (.agg #[.int .i64 0, .int .i64 0, .int .i64 0, .int .i64 0, .int .i64 0, .int .i64 0, .int .i64 0, .int .i64 0, .int .i64 0, .int .i64 0]) := ⟨by kernel_rfl⟩
instance : ArrTy Try.prog 75 10 2 1 := ⟨by kernel_rfl⟩
instance : Agg Try.prog 80 128 := ⟨by kernel_rfl⟩
instance : Places Try.prog 80 [(0, 32), (32, 32), (64, 32), (96, 32)] := ⟨by kernel_rfl⟩
instance : FieldAt Try.prog 80 0 0 := ⟨by kernel_rfl⟩
instance : FieldAt Try.prog 80 1 32 := ⟨by kernel_rfl⟩
instance : FieldAt Try.prog 80 2 64 := ⟨by kernel_rfl⟩
instance : FieldAt Try.prog 80 3 96 := ⟨by kernel_rfl⟩
instance : Zero Try.prog 86 (.agg #[.bool false, .bool false]) := ⟨by kernel_rfl⟩
instance : Places Try.prog 86 [(0, 1), (1, 1)] := ⟨by kernel_rfl⟩
instance : Agg Try.prog 91 30 := ⟨by kernel_rfl⟩
instance : Zero Try.prog 91 (.agg #[.int .i64 0, .int .i64 0, .int .i64 0, .int .i64 0, .int .i64 0, .int .i64 0, .int .i64 0, .int .i64 0, .int .i64 0, .int .i64 0, .int .i64 0, .int .i64 0, .int .i64 0, .int .i64 0, .int .i64 0, .int .i64 0, .int .i64 0, .int .i64 0, .int .i64 0, .int .i64 0, .int .i64 0, .int .i64 0, .int .i64 0, .int .i64 0, .int .i64 0, .int .i64 0, .int .i64 0, .int .i64 0, .int .i64 0, .int .i64 0]) := ⟨by kernel_rfl⟩
instance : Places Try.prog 91 [(0, 10), (10, 10), (20, 10)] := ⟨by kernel_rfl⟩
instance : FieldAt Try.prog 91 0 0 := ⟨by kernel_rfl⟩
instance : FieldAt Try.prog 91 1 10 := ⟨by kernel_rfl⟩
instance : FieldAt Try.prog 91 2 20 := ⟨by kernel_rfl⟩
instance : Agg Try.prog 96 2 := ⟨by kernel_rfl⟩
instance : Zero Try.prog 96 (.agg #[.int .u64 0, .int .u64 0]) := ⟨by kernel_rfl⟩
instance : Places Try.prog 96 [(0, 1), (1, 1)] := ⟨by kernel_rfl⟩
instance : FieldAt Try.prog 96 0 0 := ⟨by kernel_rfl⟩
instance : FieldAt Try.prog 96 1 1 := ⟨by kernel_rfl⟩
instance : FnOk Try.prog 16 := ⟨by kernel_rfl⟩
instance : FnOk Try.prog 17 := ⟨by kernel_rfl⟩
instance : FnOk Try.prog 18 := ⟨by kernel_rfl⟩
instance : FnOk Try.prog 19 := ⟨by kernel_rfl⟩
instance : FnOk Try.prog 20 := ⟨by kernel_rfl⟩
instance : FnOk Try.prog 21 := ⟨by kernel_rfl⟩
instance : FnOk Try.prog 22 := ⟨by kernel_rfl⟩
instance : FnOk Try.prog 23 := ⟨by kernel_rfl⟩
instance : FnOk Try.prog 24 := ⟨by kernel_rfl⟩
instance : FnOk Try.prog 25 := ⟨by kernel_rfl⟩
instance : FnOk Try.prog 27 := ⟨by kernel_rfl⟩
instance : FnOk Try.prog 28 := ⟨by kernel_rfl⟩
instance : FnOk Try.prog 29 := ⟨by kernel_rfl⟩
instance : FnOk Try.prog 30 := ⟨by kernel_rfl⟩
instance : FnOk Try.prog 32 := ⟨by kernel_rfl⟩
instance : FnOk Try.prog 33 := ⟨by kernel_rfl⟩
instance : FnOk Try.prog 34 := ⟨by kernel_rfl⟩
instance : FnOk Try.prog 35 := ⟨by kernel_rfl⟩
instance : FnOk Try.prog 36 := ⟨by kernel_rfl⟩
instance : FnOk Try.prog 37 := ⟨by kernel_rfl⟩
instance : FnOk Try.prog 38 := ⟨by kernel_rfl⟩
instance : FnOk Try.prog 39 := ⟨by kernel_rfl⟩
instance : FnOk Try.prog 43 := ⟨by kernel_rfl⟩
instance : FnOk Try.prog 46 := ⟨by kernel_rfl⟩
instance : FnOk Try.prog 54 := ⟨by kernel_rfl⟩
instance : FnOk Try.prog 55 := ⟨by kernel_rfl⟩
instance : FnOk Try.prog 58 := ⟨by kernel_rfl⟩
instance : FnOk Try.prog 66 := ⟨by kernel_rfl⟩
instance : FnOk Try.prog 67 := ⟨by kernel_rfl⟩
instance : FnOk Try.prog 68 := ⟨by kernel_rfl⟩
instance : FnOk Try.prog 69 := ⟨by kernel_rfl⟩
instance : FnOk Try.prog 70 := ⟨by kernel_rfl⟩
instance : FnOk Try.prog 71 := ⟨by kernel_rfl⟩
instance : FnOk Try.prog 72 := ⟨by kernel_rfl⟩
instance : FnOk Try.prog 73 := ⟨by kernel_rfl⟩
instance : FnOk Try.prog 74 := ⟨by kernel_rfl⟩
instance : FnOk Try.prog 75 := ⟨by kernel_rfl⟩
instance : FnOk Try.prog 76 := ⟨by kernel_rfl⟩
instance : FnOk Try.prog 77 := ⟨by kernel_rfl⟩
instance : FnOk Try.prog 78 := ⟨by kernel_rfl⟩
instance : FnOk Try.prog 79 := ⟨by kernel_rfl⟩
instance : FnOk Try.prog 80 := ⟨by kernel_rfl⟩
instance : FnOk Try.prog 81 := ⟨by kernel_rfl⟩
instance : FnOk Try.prog 82 := ⟨by kernel_rfl⟩
instance : FnOk Try.prog 83 := ⟨by kernel_rfl⟩
instance : FnOk Try.prog 84 := ⟨by kernel_rfl⟩
instance : FnOk Try.prog 87 := ⟨by kernel_rfl⟩
instance : FnOk Try.prog 88 := ⟨by kernel_rfl⟩
instance : FnOk Try.prog 89 := ⟨by kernel_rfl⟩
instance : FnOk Try.prog 90 := ⟨by kernel_rfl⟩
instance : FnOk Try.prog 91 := ⟨by kernel_rfl⟩
instance : FnOk Try.prog 92 := ⟨by kernel_rfl⟩
instance : FnOk Try.prog 93 := ⟨by kernel_rfl⟩
instance : FnOk Try.prog 94 := ⟨by kernel_rfl⟩
instance : FnOk Try.prog 95 := ⟨by kernel_rfl⟩
instance : FnOk Try.prog 96 := ⟨by kernel_rfl⟩
instance : FnOk Try.prog 97 := ⟨by kernel_rfl⟩
instance : FnOk Try.prog 98 := ⟨by kernel_rfl⟩
instance : FnOk Try.prog 100 := ⟨by kernel_rfl⟩
instance : ExtFn Try.prog 101 "math/bits.Add64" := ⟨_, rfl, rfl, rfl, by kernel_rfl, by kernel_rfl⟩
end Go.Proofs.Ytmpjigghgedjbaa
namespace Go.Proofs.Ytmpjigghgedjbaa
open Go Go.RowKit Go.V
abbrev B1 (x : Nat) : Value := .int .u8 (x : Int)
abbrev W1 (x : Nat) : Value := .int .u64 (x : Int)
def b8 (x : Nat) : List Value := [B1 (x % 256), B1 (x / 256 % 256), B1 (x / 65536 % 256), B1 (x / 16777216 % 256), B1 (x / 4294967296 % 256), B1 (x / 1099511627776 % 256), B1 (x / 281474976710656 % 256), B1 (x / 72057594037927936 % 256)]
def q0 (N : Nat) : Nat := N % 18446744073709551616
def q1 (N : Nat) : Nat := N / 18446744073709551616 % 18446744073709551616
def q2 (N : Nat) : Nat := N / 340282366920938463463374607431768211456 % 18446744073709551616
def q3 (N : Nat) : Nat := N / 6277101735386680763835789423207666416102355444464034512896 % 18446744073709551616
def numL (N : Nat) : List Value := b8 (q0 N) ++ (b8 (q1 N) ++ (b8 (q2 N) ++ b8 (q3 N)))
abbrev num (N : Nat) : Value := .agg (numL N).toArray
theorem q0_lt (N : Nat) : q0 N < 18446744073709551616 := Nat.mod_lt _ (by decide)
theorem q1_lt (N : Nat) : q1 N < 18446744073709551616 := Nat.mod_lt _ (by decide)
theorem q2_lt (N : Nat) : q2 N < 18446744073709551616 := Nat.mod_lt _ (by decide)
theorem q3_lt (N : Nat) : q3 N < 18446744073709551616 := Nat.mod_lt _ (by decide)
theorem octets {x : Nat} (h : x < 18446744073709551616) : x % 256 + x / 256 % 256 * 256 + x / 65536 % 256 * 65536 + x / 16777216 % 256 * 16777216 + x / 4294967296 % 256 * 4294967296 + x / 1099511627776 % 256 * 1099511627776 + x / 281474976710656 % 256 * 281474976710656 + x / 72057594037927936 % 256 * 72057594037927936 = x := by omega
def someQ (N : Nat) : Nat → List Value
 | 0 => [W1 0, W1 0, W1 0, W1 0]
 | 1 => [W1 (q0 N), W1 0, W1 0, W1 0]
 | 2 => [W1 (q0 N), W1 (q1 N), W1 0, W1 0]
 | 3 => [W1 (q0 N), W1 (q1 N), W1 (q2 N), W1 0]
 | _ => [W1 (q0 N), W1 (q1 N), W1 (q2 N), W1 (q3 N)]
theorem quarters_c (N : Nat) (w : World) :
  Calls Try.prog 70 #[num N] w (Ret fun v w' => v = .agg #[W1 (q0 N), W1 (q1 N), W1 (q2 N), W1 (q3 N)] ∧ Grow w w') := by
 refine V.calls (args := [_]) Try.func70 rfl Try.ntmps70 rfl rfl ?_
 have h0 := q0_lt N
 repeat (first | (refine TL.isMove ?_; refine TL.pure rfl rfl ?_) | refine TL.nil ?_ | refine thenQ_normal ?_ | refine T.seq ?_ | refine T.region ?_ | refine T.block ?_ | (refine TL.isBox ?_; (refine TL.box rfl rfl rfl ?_; intro bk w' hg hbk hsz hsz')) | (refine TL.isAlloc ?_; (refine TL.alloc rfl rfl ?_; intro bk w' hg hbk hsz hsz')))
 rename_i b1 w1 g1 k1 s1 t1 b2 w2 g2 k2 s2 t2
 refine T.loop (S := Nat) (fun k => [(6, .int .i64 (k : Int)), (3, .pointer (some ⟨bk, 0, none⟩)), (2, .pointer (some ⟨b2, 0, none⟩)), (1, .pointer (some ⟨b1, 0, none⟩))]) (fun k w' => k ≤ 4 ∧ Blk w' b1 23 (numL N) ∧ Blk w' b2 66 [W1 0, W1 0, W1 0, W1 0] ∧ Blk w' bk 66 (someQ N k) ∧ Grow w w') (fun k => 4 - k) 0 ⟨rfl, rfl, rfl, rfl, trivial⟩ ⟨by omega, yB, yB, yB, yG⟩ ?_
 rintro k w' ⟨hk, m1, m2, m3, hg⟩
 clear k1 k2 hbk
 obtain rfl | rfl | rfl | rfl | rfl : k = 0 ∨ k = 1 ∨ k = 2 ∨ k = 3 ∨ k = 4 := by omega
 ·refine T.weaken (e' := [(6, .int .i64 0), (3, _), (2, _), (1, _)]) ?_ ⟨rfl, rfl, rfl, rfl, trivial⟩
  have hq := q0_lt N
  repeat (first | (refine TL.isMove ?_; refine TL.pure rfl rfl ?_) | (refine TL.isAsg ?_; refine TL.pure rfl rfl ?_) | (refine TL.isAdd ?_; refine TL.addI rfl rfl (by omega) (by omega) rfl ?_) | (refine TL.isMul ?_; refine TL.mulI rfl rfl (by omega) (by omega) rfl ?_) | refine TL.nil ?_ | refine thenQ_normal ?_ | refine T.seq ?_ | refine T.region ?_ | refine T.block ?_ | (refine TL.isBin ?_; refine TL.pure rfl rfl ?_) | (refine TL.isSlice ?_; refine TL.sliceArr rfl (bnd_lit rfl) (bnd_lit rfl) (by omega) (by omega) (by omega) rfl rfl ?_) | refine T.cond_true rfl ?_ | refine T.skip ?_)
  apply T.any 47 [is _, is _, is _, is _, is _, is _, is _, is _, is _, is _, is _, is _, is _, is _, is _, is _, is _, is _, is _, is _, is _, is _, is _, is _, is _, is _, is _, is _, is _, is _, is _, is _, is _, is _, is _, is _, is _, is _, is _, is _, is _, is _, is _, is _, is _, is _, is _]; (· kernel_rfl); (· ((repeat' (first | exact allDo_end | refine allDo_cons ?_ ?_)); (iterate 47 (· ((refine does_mk0 rfl rfl rfl ?_); ( intro wq _ _ hgq; (repeat (refine need_cons rfl rfl ?_; intro vq hvq; try (obtain rfl := hvq))); (refine need_nil ?_)); (repeat (first | (refine TL.isMove ?_; refine TL.pure rfl rfl ?_) | refine TL.load1 rfl yM rfl ?_ | (refine TL.isIndex ?_; refine TL.indexAt rfl rfl (by omega) rfl rfl ?_) | refine TL.nil ?_ | (refine TL.isOr ?_; refine TL.orM rfl rfl rfl rfl rfl (by omega) (by omega) rfl rfl ?_) | (refine TL.isShl ?_; refine TL.shlU rfl rfl rfl rfl rfl (by omega) rfl ?_) | (refine TL.isConv ?_; refine TL.convU rfl rfl (by omega) rfl ?_))); exact one_end rfl yG rfl))))); (rintro _ _ _ hgr _ _; (repeat (refine need_cons rfl rfl ?_; intro vq hvq; try (obtain rfl := hvq))); (refine need_nil ?_))
  rw [octets hq]
  repeat (first | (refine TL.isMove ?_; refine TL.pure rfl rfl ?_) | (refine TL.isIndex ?_; refine TL.indexArr rfl rfl (by omega) rfl rfl ?_) | (refine TL.isAdd ?_; refine TL.addI rfl rfl (by omega) (by omega) rfl ?_) | refine TL.nil ?_ | refine thenQ_normal ?_ | refine T.region ?_ | refine blockQ_normal ?_ | (refine TL.isStore ?_; (refine TL.store1 rfl rfl yB (by exact rfl) (by exact rfl) (by exact rfl) ?_; intro w' hu hbk hsz)))
  exact loopQ_normal 1 ⟨rfl, rfl, rfl, rfl, trivial⟩ ⟨by omega, yB, yB, by assumption, yG⟩ (by omega)
 ·refine T.weaken (e' := [(6, .int .i64 1), (3, _), (2, _), (1, _)]) ?_ ⟨rfl, rfl, rfl, rfl, trivial⟩
  have hq := q1_lt N
  repeat (first | (refine TL.isMove ?_; refine TL.pure rfl rfl ?_) | (refine TL.isAsg ?_; refine TL.pure rfl rfl ?_) | (refine TL.isAdd ?_; refine TL.addI rfl rfl (by omega) (by omega) rfl ?_) | (refine TL.isMul ?_; refine TL.mulI rfl rfl (by omega) (by omega) rfl ?_) | refine TL.nil ?_ | refine thenQ_normal ?_ | refine T.seq ?_ | refine T.region ?_ | refine T.block ?_ | (refine TL.isBin ?_; refine TL.pure rfl rfl ?_) | (refine TL.isSlice ?_; refine TL.sliceArr rfl (bnd_lit rfl) (bnd_lit rfl) (by omega) (by omega) (by omega) rfl rfl ?_) | refine T.cond_true rfl ?_ | refine T.skip ?_)
  apply T.any 47 [is _, is _, is _, is _, is _, is _, is _, is _, is _, is _, is _, is _, is _, is _, is _, is _, is _, is _, is _, is _, is _, is _, is _, is _, is _, is _, is _, is _, is _, is _, is _, is _, is _, is _, is _, is _, is _, is _, is _, is _, is _, is _, is _, is _, is _, is _, is _]; (· kernel_rfl); (· ((repeat' (first | exact allDo_end | refine allDo_cons ?_ ?_)); (iterate 47 (· ((refine does_mk0 rfl rfl rfl ?_); ( intro wq _ _ hgq; (repeat (refine need_cons rfl rfl ?_; intro vq hvq; try (obtain rfl := hvq))); (refine need_nil ?_)); (repeat (first | (refine TL.isMove ?_; refine TL.pure rfl rfl ?_) | refine TL.load1 rfl yM rfl ?_ | (refine TL.isIndex ?_; refine TL.indexAt rfl rfl (by omega) rfl rfl ?_) | refine TL.nil ?_ | (refine TL.isOr ?_; refine TL.orM rfl rfl rfl rfl rfl (by omega) (by omega) rfl rfl ?_) | (refine TL.isShl ?_; refine TL.shlU rfl rfl rfl rfl rfl (by omega) rfl ?_) | (refine TL.isConv ?_; refine TL.convU rfl rfl (by omega) rfl ?_))); exact one_end rfl yG rfl))))); (rintro _ _ _ hgr _ _; (repeat (refine need_cons rfl rfl ?_; intro vq hvq; try (obtain rfl := hvq))); (refine need_nil ?_))
  rw [octets hq]
  repeat (first | (refine TL.isMove ?_; refine TL.pure rfl rfl ?_) | (refine TL.isIndex ?_; refine TL.indexArr rfl rfl (by omega) rfl rfl ?_) | (refine TL.isAdd ?_; refine TL.addI rfl rfl (by omega) (by omega) rfl ?_) | refine TL.nil ?_ | refine thenQ_normal ?_ | refine T.region ?_ | refine blockQ_normal ?_ | (refine TL.isStore ?_; (refine TL.store1 rfl rfl yB (by exact rfl) (by exact rfl) (by exact rfl) ?_; intro w' hu hbk hsz)))
  exact loopQ_normal 2 ⟨rfl, rfl, rfl, rfl, trivial⟩ ⟨by omega, yB, yB, by assumption, yG⟩ (by omega)
 ·refine T.weaken (e' := [(6, .int .i64 2), (3, _), (2, _), (1, _)]) ?_ ⟨rfl, rfl, rfl, rfl, trivial⟩
  have hq := q2_lt N
  repeat (first | (refine TL.isMove ?_; refine TL.pure rfl rfl ?_) | (refine TL.isAsg ?_; refine TL.pure rfl rfl ?_) | (refine TL.isAdd ?_; refine TL.addI rfl rfl (by omega) (by omega) rfl ?_) | (refine TL.isMul ?_; refine TL.mulI rfl rfl (by omega) (by omega) rfl ?_) | refine TL.nil ?_ | refine thenQ_normal ?_ | refine T.seq ?_ | refine T.region ?_ | refine T.block ?_ | (refine TL.isBin ?_; refine TL.pure rfl rfl ?_) | (refine TL.isSlice ?_; refine TL.sliceArr rfl (bnd_lit rfl) (bnd_lit rfl) (by omega) (by omega) (by omega) rfl rfl ?_) | refine T.cond_true rfl ?_ | refine T.skip ?_)
  apply T.any 47 [is _, is _, is _, is _, is _, is _, is _, is _, is _, is _, is _, is _, is _, is _, is _, is _, is _, is _, is _, is _, is _, is _, is _, is _, is _, is _, is _, is _, is _, is _, is _, is _, is _, is _, is _, is _, is _, is _, is _, is _, is _, is _, is _, is _, is _, is _, is _]; (· kernel_rfl); (· ((repeat' (first | exact allDo_end | refine allDo_cons ?_ ?_)); (iterate 47 (· ((refine does_mk0 rfl rfl rfl ?_); ( intro wq _ _ hgq; (repeat (refine need_cons rfl rfl ?_; intro vq hvq; try (obtain rfl := hvq))); (refine need_nil ?_)); (repeat (first | (refine TL.isMove ?_; refine TL.pure rfl rfl ?_) | refine TL.load1 rfl yM rfl ?_ | (refine TL.isIndex ?_; refine TL.indexAt rfl rfl (by omega) rfl rfl ?_) | refine TL.nil ?_ | (refine TL.isOr ?_; refine TL.orM rfl rfl rfl rfl rfl (by omega) (by omega) rfl rfl ?_) | (refine TL.isShl ?_; refine TL.shlU rfl rfl rfl rfl rfl (by omega) rfl ?_) | (refine TL.isConv ?_; refine TL.convU rfl rfl (by omega) rfl ?_))); exact one_end rfl yG rfl))))); (rintro _ _ _ hgr _ _; (repeat (refine need_cons rfl rfl ?_; intro vq hvq; try (obtain rfl := hvq))); (refine need_nil ?_))
  rw [octets hq]
  repeat (first | (refine TL.isMove ?_; refine TL.pure rfl rfl ?_) | (refine TL.isIndex ?_; refine TL.indexArr rfl rfl (by omega) rfl rfl ?_) | (refine TL.isAdd ?_; refine TL.addI rfl rfl (by omega) (by omega) rfl ?_) | refine TL.nil ?_ | refine thenQ_normal ?_ | refine T.region ?_ | refine blockQ_normal ?_ | (refine TL.isStore ?_; (refine TL.store1 rfl rfl yB (by exact rfl) (by exact rfl) (by exact rfl) ?_; intro w' hu hbk hsz)))
  exact loopQ_normal 3 ⟨rfl, rfl, rfl, rfl, trivial⟩ ⟨by omega, yB, yB, by assumption, yG⟩ (by omega)
 ·refine T.weaken (e' := [(6, .int .i64 3), (3, _), (2, _), (1, _)]) ?_ ⟨rfl, rfl, rfl, rfl, trivial⟩
  have hq := q3_lt N
  repeat (first | (refine TL.isMove ?_; refine TL.pure rfl rfl ?_) | (refine TL.isAsg ?_; refine TL.pure rfl rfl ?_) | (refine TL.isAdd ?_; refine TL.addI rfl rfl (by omega) (by omega) rfl ?_) | (refine TL.isMul ?_; refine TL.mulI rfl rfl (by omega) (by omega) rfl ?_) | refine TL.nil ?_ | refine thenQ_normal ?_ | refine T.seq ?_ | refine T.region ?_ | refine T.block ?_ | (refine TL.isBin ?_; refine TL.pure rfl rfl ?_) | (refine TL.isSlice ?_; refine TL.sliceArr rfl (bnd_lit rfl) (bnd_lit rfl) (by omega) (by omega) (by omega) rfl rfl ?_) | refine T.cond_true rfl ?_ | refine T.skip ?_)
  apply T.any 47 [is _, is _, is _, is _, is _, is _, is _, is _, is _, is _, is _, is _, is _, is _, is _, is _, is _, is _, is _, is _, is _, is _, is _, is _, is _, is _, is _, is _, is _, is _, is _, is _, is _, is _, is _, is _, is _, is _, is _, is _, is _, is _, is _, is _, is _, is _, is _]; (· kernel_rfl); (· ((repeat' (first | exact allDo_end | refine allDo_cons ?_ ?_)); (iterate 47 (· ((refine does_mk0 rfl rfl rfl ?_); ( intro wq _ _ hgq; (repeat (refine need_cons rfl rfl ?_; intro vq hvq; try (obtain rfl := hvq))); (refine need_nil ?_)); (repeat (first | (refine TL.isMove ?_; refine TL.pure rfl rfl ?_) | refine TL.load1 rfl yM rfl ?_ | (refine TL.isIndex ?_; refine TL.indexAt rfl rfl (by omega) rfl rfl ?_) | refine TL.nil ?_ | (refine TL.isOr ?_; refine TL.orM rfl rfl rfl rfl rfl (by omega) (by omega) rfl rfl ?_) | (refine TL.isShl ?_; refine TL.shlU rfl rfl rfl rfl rfl (by omega) rfl ?_) | (refine TL.isConv ?_; refine TL.convU rfl rfl (by omega) rfl ?_))); exact one_end rfl yG rfl))))); (rintro _ _ _ hgr _ _; (repeat (refine need_cons rfl rfl ?_; intro vq hvq; try (obtain rfl := hvq))); (refine need_nil ?_))
  rw [octets hq]
  repeat (first | (refine TL.isMove ?_; refine TL.pure rfl rfl ?_) | (refine TL.isIndex ?_; refine TL.indexArr rfl rfl (by omega) rfl rfl ?_) | (refine TL.isAdd ?_; refine TL.addI rfl rfl (by omega) (by omega) rfl ?_) | refine TL.nil ?_ | refine thenQ_normal ?_ | refine T.region ?_ | refine blockQ_normal ?_ | (refine TL.isStore ?_; (refine TL.store1 rfl rfl yB (by exact rfl) (by exact rfl) (by exact rfl) ?_; intro w' hu hbk hsz)))
  exact loopQ_normal 4 ⟨rfl, rfl, rfl, rfl, trivial⟩ ⟨by omega, yB, yB, by assumption, yG⟩ (by omega)
 ·refine T.weaken (e' := [(6, .int .i64 4), (3, _), (2, _), (1, _)]) ?_ ⟨rfl, rfl, rfl, rfl, trivial⟩
  repeat (first | (refine TL.isLoad ?_; refine TL.loadW rfl yB (by exact rfl) rfl ?_) | refine TL.nil ?_ | refine thenQ_normal ?_ | refine T.seq ?_ | refine T.region ?_ | (refine TL.isBin ?_; refine TL.pure rfl rfl ?_) | (refine TL.isStore ?_; (refine TL.storeWh rfl rfl yB (by exact rfl) (by exact rfl) (by exact rfl) ?_; intro w' hu hbk hsz)) | refine T.cond_false rfl ?_ | refine T.ret ?_ | refine T.exit ?_ | refine thenQ_exit ?_ | refine blockQ_hit ?_ | refine loopQ_exit ?_)
  exact retC rfl (load_whole (by assumption) rfl) ⟨_, rfl, rfl, yG⟩
end Go.Proofs.Ytmpjigghgedjbaa
namespace Go.Proofs.Ytmpjigghgedjbaa
open Go Go.RowKit Go.V
theorem put_c (b o c t x : Nat) (cs : List Value) (w : World) (hb : Blk w b t cs) (hl : o + 8 ≤ cs.length) :
  Calls Try.prog 69 #[.slice (some ⟨b, o, none⟩) 8 c, W1 x] w (Ret fun v w' => v = .tuple #[] ∧ Upd b w w' ∧ Blk w' b t (putAt cs o (b8 x))) := by
 refine V.calls (args := [_, _]) Try.func69 rfl Try.ntmps69 rfl rfl ?_
 have h7 := hb.cell (o := o + 7 * 1) (v := cs[o + 7]) (by simp)
 repeat (first | (refine TL.isMove ?_; refine TL.pure rfl rfl ?_) | refine TL.load1 rfl yM rfl ?_ | (refine TL.isIndex ?_; refine TL.indexAt rfl rfl (by omega) rfl rfl ?_) | refine TL.nil ?_ | refine thenQ_normal ?_ | refine T.seq ?_ | refine T.region ?_ | refine TL.shrU rfl rfl rfl rfl rfl rfl ?_ | refine TL.convW rfl rfl rfl ?_ | (refine TL.storeS rfl rfl (by assumption) (by exact rfl) (by (try simp only [List.length_set]); omega) ?_; intro w' hu hbk hsz))
 refine retQ_normal (vs := []) rfl rfl ⟨_, rfl, rfl, ?_, by assumption⟩
 repeat' (first | assumption | refine Upd.trans ?_ (by assumption))
def l0 (N : Nat) : Nat := N % 2251799813685248
def l1 (N : Nat) : Nat := N / 2251799813685248 % 2251799813685248
def l2 (N : Nat) : Nat := N / 5070602400912917605986812821504 % 2251799813685248
def l3 (N : Nat) : Nat := N / 11417981541647679048466287755595961091061972992 % 2251799813685248
def l4 (N : Nat) : Nat := N / 25711008708143844408671393477458601640355247900524685364822016
abbrev wds (a b c d e : Nat) : Value := .agg #[W1 a, W1 b, W1 c, W1 d, W1 e]
theorem l0_eq (N : Nat) : q0 N % 2251799813685248 = l0 N := by unfold q0 l0; omega
theorem l1_eq (N : Nat) : (q0 N / 2251799813685248 + q1 N * 8192 % 18446744073709551616) % 2251799813685248 = l1 N := by unfold q0 q1 l1; omega
theorem l2_eq (N : Nat) : (q1 N / 274877906944 + q2 N * 67108864 % 18446744073709551616) % 2251799813685248 = l2 N := by unfold q1 q2 l2; omega
theorem l3_eq (N : Nat) : (q2 N / 33554432 + q3 N * 549755813888 % 18446744073709551616) % 2251799813685248 = l3 N := by unfold q2 q3 l3; omega
theorem l4_eq {N : Nat} (h : N < 115792089237316195423570985008687907853269984665640564039457584007913129639936) : q3 N / 4096 = l4 N := by unfold q3 l4; omega
theorem load_c (N : Nat) (hN : N < 115792089237316195423570985008687907853269984665640564039457584007913129639936) (w : World) :
  Calls Try.prog 67 #[num N] w (Ret fun v w' => v = wds (l0 N) (l1 N) (l2 N) (l3 N) (l4 N) ∧ Grow w w') := by
 refine V.calls (args := [_]) Try.func67 rfl Try.ntmps67 rfl rfl ?_
 have h0 := q0_lt N
 have h1 := q1_lt N
 have h2 := q2_lt N
 have h3 := q3_lt N
 repeat (first | (refine TL.isLoad ?_; refine TL.loadW rfl yB (by exact rfl) rfl ?_) | refine TL.nil ?_ | refine thenQ_normal ?_ | refine T.seq ?_ | refine T.region ?_ | (refine TL.isBox ?_; (refine TL.box rfl rfl rfl ?_; intro bk w' hg hbk hsz hsz')) | (refine TL.isAlloc ?_; (refine TL.alloc rfl rfl ?_; intro bk w' hg hbk hsz hsz')))
 refine TL.call rfl (quarters_c N _) rfl ?_
 rintro _ w2 ⟨rfl, hg2⟩
 repeat (first | refine TL.load1 rfl yM rfl ?_ | (refine TL.isIndex ?_; refine TL.indexArr rfl rfl (by omega) rfl rfl ?_) | (refine TL.isAnd ?_; refine TL.andU rfl rfl rfl rfl (by omega) (by omega) rfl ?_) | refine TL.nil ?_ | refine thenQ_normal ?_ | refine T.seq ?_ | refine T.region ?_ | (refine TL.isOr ?_; refine TL.orMW rfl rfl rfl rfl rfl (by omega) rfl rfl ?_) | refine TL.shlW rfl rfl rfl rfl rfl rfl ?_ | refine TL.shrU rfl rfl rfl rfl rfl rfl ?_ | (refine TL.isStore ?_; (refine TL.storeWh rfl rfl yB (by exact rfl) (by exact rfl) (by exact rfl) ?_; intro w' hu hbk hsz)) | (refine TL.isAlloc ?_; (refine TL.alloc rfl rfl ?_; intro bk w' hg hbk hsz hsz')) | refine TL.buildArr rfl rfl rfl ?_ | refine T.ret ?_)
 exact retC rfl (load_whole (by assumption) rfl) ⟨_, rfl, by show wds _ _ _ _ _ = _; rw [l0_eq, l1_eq, l2_eq, l3_eq, l4_eq hN], yG⟩
theorem carried_c (a b c d e : Nat) (ha : a < 18446744073709551616) (hb : b < 18446744073709551616) (hc : c < 18446744073709551616) (hd : d < 18446744073709551616) (he : e < 18446744073709551616) (w : World) :
  Calls Try.prog 93 #[wds a b c d e] w (Ret fun v w' => v = wds (a % 2251799813685248 + 19 * (e / 2251799813685248)) (b % 2251799813685248 + a / 2251799813685248) (c % 2251799813685248 + b / 2251799813685248) (d % 2251799813685248 + c / 2251799813685248) (e % 2251799813685248 + d / 2251799813685248) ∧ Grow w w') := by
 refine V.calls (args := [_]) Try.func93 rfl Try.ntmps93 rfl rfl ?_
 repeat (first | refine TL.load1 rfl yM rfl ?_ | (refine TL.isIndex ?_; refine TL.indexArr rfl rfl (by omega) rfl rfl ?_) | (refine TL.isAdd ?_; refine TL.addU rfl rfl rfl (by omega) rfl ?_) | (refine TL.isMul ?_; refine TL.mulU rfl rfl rfl (by omega) rfl ?_) | (refine TL.isAnd ?_; refine TL.andU rfl rfl rfl rfl (by omega) (by omega) rfl ?_) | refine TL.nil ?_ | refine thenQ_normal ?_ | refine T.seq ?_ | refine T.region ?_ | refine TL.shrU rfl rfl rfl rfl rfl rfl ?_ | (refine TL.isStore ?_; (refine TL.storeWh rfl rfl yB (by exact rfl) (by exact rfl) (by exact rfl) ?_; intro w' hu hbk hsz)) | (refine TL.isBox ?_; (refine TL.box rfl rfl rfl ?_; intro bk w' hg hbk hsz hsz')) | (refine TL.isAlloc ?_; (refine TL.alloc rfl rfl ?_; intro bk w' hg hbk hsz hsz')) | refine TL.buildArr rfl rfl rfl ?_ | refine T.ret ?_)
 exact retC rfl (load_whole (by assumption) rfl) ⟨_, rfl, rfl, yG⟩
end Go.Proofs.Ytmpjigghgedjbaa
namespace Go.Proofs.Ytmpjigghgedjbaa
open Go Go.RowKit Go.V
def p25519 : Nat := 57896044618658097711785492504343953926634992332820282019728792003956564819949
def V5 (a b c d e : Nat) : Nat := a + 2251799813685248 * b + 5070602400912917605986812821504 * c + 11417981541647679048466287755595961091061972992 * d + 25711008708143844408671393477458601640355247900524685364822016 * e
def c1 (a : Nat) : Nat := (a + 19) / 2251799813685248
def c2 (a b : Nat) : Nat := (b + c1 a) / 2251799813685248
def c3 (a b c : Nat) : Nat := (c + c2 a b) / 2251799813685248
def c4 (a b c d : Nat) : Nat := (d + c3 a b c) / 2251799813685248
def c5 (a b c d e : Nat) : Nat := (e + c4 a b c d) / 2251799813685248
def ck (a b c d e : Nat) : Nat → Nat
 | 1 => c1 a
 | 2 => c2 a b
 | 3 => c3 a b c
 | 4 => c4 a b c d
 | _ => c5 a b c d e
def sw (a b c d e : Nat) : Nat → List Value
 | 0 => [W1 a, W1 b, W1 c, W1 d, W1 e]
 | 1 => [W1 (a % 2251799813685248), W1 (b + a / 2251799813685248), W1 c, W1 d, W1 e]
 | 2 => [W1 (a % 2251799813685248), W1 ((b + a / 2251799813685248) % 2251799813685248), W1 (c + (b + a / 2251799813685248) / 2251799813685248), W1 d, W1 e]
 | 3 => [W1 (a % 2251799813685248), W1 ((b + a / 2251799813685248) % 2251799813685248), W1 ((c + (b + a / 2251799813685248) / 2251799813685248) % 2251799813685248), W1 (d + (c + (b + a / 2251799813685248) / 2251799813685248) / 2251799813685248), W1 e]
 | _ => [W1 (a % 2251799813685248), W1 ((b + a / 2251799813685248) % 2251799813685248), W1 ((c + (b + a / 2251799813685248) / 2251799813685248) % 2251799813685248), W1 ((d + (c + (b + a / 2251799813685248) / 2251799813685248) / 2251799813685248) % 2251799813685248), W1 (e + (d + (c + (b + a / 2251799813685248) / 2251799813685248) / 2251799813685248) / 2251799813685248)]
theorem carry_last (V c M o : Nat) (hV : V < 86844066927987146567678238756515930889952488499230423029593188005934847229952) (hc : c = (V + 19) / 57896044618658097711785492504343953926634992332820282019728792003956564819968)
  (hM : M + 57896044618658097711785492504343953926634992332820282019728792003956564819968 * o = V + 19 * c) (hM2 : M < 57896044618658097711785492504343953926634992332820282019728792003956564819968) : V % p25519 = M := by
 unfold p25519
 have h : c = 0 ∨ c = 1 := by omega
 rcases h with rfl | rfl
 ·have : o = 0 := by omega
  subst this
  omega
 ·have : o = 1 := by omega
  subst this
  omega
theorem carry_all (A B C D E c : Nat) (h0 : A < 2251799813840896) (h1 : B < 2251799813693440) (h2 : C < 2251799813693440) (h3 : D < 2251799813693440) (h4 : E < 2251799813693440) (k5 : c ≤ 1)
  (hc : c = (V5 A B C D E + 19) / 57896044618658097711785492504343953926634992332820282019728792003956564819968) :
  V5 A B C D E % p25519 = V5 ((A + 19 * c) % 2251799813685248) ((B + (A + 19 * c) / 2251799813685248) % 2251799813685248) ((C + (B + (A + 19 * c) / 2251799813685248) / 2251799813685248) % 2251799813685248) ((D + (C + (B + (A + 19 * c) / 2251799813685248) / 2251799813685248) / 2251799813685248) % 2251799813685248) ((E + (D + (C + (B + (A + 19 * c) / 2251799813685248) / 2251799813685248) / 2251799813685248) / 2251799813685248) % 2251799813685248) := by
 refine carry_last _ c _ ((E + (D + (C + (B + (A + 19 * c) / 2251799813685248) / 2251799813685248) / 2251799813685248) / 2251799813685248) / 2251799813685248) ?_ hc ?_ ?_
 ·unfold V5; omega
 ·clear hc; unfold V5; omega
 ·clear hc; unfold V5; omega
def zs : Nat → List Value
 | 0 => []
 | k + 1 => B1 0 :: zs k
def zeros : List Value := [B1 0, B1 0, B1 0, B1 0, B1 0, B1 0, B1 0, B1 0, B1 0, B1 0, B1 0, B1 0, B1 0, B1 0, B1 0, B1 0, B1 0, B1 0, B1 0, B1 0, B1 0, B1 0, B1 0, B1 0, B1 0, B1 0, B1 0, B1 0, B1 0, B1 0, B1 0, B1 0]
theorem store_c (a b c d e : Nat) (ha : a < 18446744073709551616) (hb : b < 18446744073709551616) (hc : c < 18446744073709551616) (hd : d < 18446744073709551616) (he : e < 18446744073709551616) (w : World) :
  Calls Try.prog 68 #[wds a b c d e] w (Ret fun v w' => v = num (V5 a b c d e % p25519) ∧ Grow w w') := by
 refine V.calls (args := [_]) Try.func68 rfl Try.ntmps68 rfl rfl ?_
 repeat (first | (refine TL.isLoad ?_; refine TL.loadW rfl yB (by exact rfl) rfl ?_) | refine TL.nil ?_ | refine thenQ_normal ?_ | refine T.seq ?_ | refine T.region ?_ | (refine TL.isBox ?_; (refine TL.box rfl rfl rfl ?_; intro bk w' hg hbk hsz hsz')) | (refine TL.isAlloc ?_; (refine TL.alloc rfl rfl ?_; intro bk w' hg hbk hsz hsz')))
 refine TL.call rfl (carried_c a b c d e ha hb hc hd he _) rfl ?_
 rintro _ w5 ⟨rfl, hg5⟩
 have hV : V5 (a % 2251799813685248 + 19 * (e / 2251799813685248)) (b % 2251799813685248 + a / 2251799813685248) (c % 2251799813685248 + b / 2251799813685248) (d % 2251799813685248 + c / 2251799813685248) (e % 2251799813685248 + d / 2251799813685248) + p25519 * (e / 2251799813685248) = V5 a b c d e := by unfold V5 p25519; omega
 have h0 : a % 2251799813685248 + 19 * (e / 2251799813685248) < 2251799813840896 := by omega
 have h1 : b % 2251799813685248 + a / 2251799813685248 < 2251799813693440 := by omega
 have h2 : c % 2251799813685248 + b / 2251799813685248 < 2251799813693440 := by omega
 have h3 : d % 2251799813685248 + c / 2251799813685248 < 2251799813693440 := by omega
 have h4 : e % 2251799813685248 + d / 2251799813685248 < 2251799813693440 := by omega
 have hV2 : V5 a b c d e % p25519 = V5 (a % 2251799813685248 + 19 * (e / 2251799813685248)) (b % 2251799813685248 + a / 2251799813685248) (c % 2251799813685248 + b / 2251799813685248) (d % 2251799813685248 + c / 2251799813685248) (e % 2251799813685248 + d / 2251799813685248) % p25519 := by rw [← hV, Nat.add_mul_mod_self_left]
 rw [hV2]
 clear hV hV2
 generalize a % 2251799813685248 + 19 * (e / 2251799813685248) = A at *
 generalize b % 2251799813685248 + a / 2251799813685248 = B at *
 generalize c % 2251799813685248 + b / 2251799813685248 = C at *
 generalize d % 2251799813685248 + c / 2251799813685248 = D at *
 generalize e % 2251799813685248 + d / 2251799813685248 = E at *
 clear ha hb hc hd he
 have k1 : c1 A ≤ 1 := by unfold c1; omega
 have k2 : c2 A B ≤ 1 := by unfold c2; omega
 have k3 : c3 A B C ≤ 1 := by unfold c3; omega
 have k4 : c4 A B C D ≤ 1 := by unfold c4; omega
 have k5 : c5 A B C D E ≤ 1 := by unfold c5; omega
 have hc5 : c5 A B C D E = (V5 A B C D E + 19) / 57896044618658097711785492504343953926634992332820282019728792003956564819968 := by unfold c5 c4 c3 c2 c1 V5; omega
 rename_i b1 w1 g1 m1 s1 t1
 repeat (first | (refine TL.isAsg ?_; refine TL.pure rfl rfl ?_) | refine TL.load1 rfl yM rfl ?_ | (refine TL.isIndex ?_; refine TL.indexArr rfl rfl (by omega) rfl rfl ?_) | (refine TL.isAdd ?_; refine TL.addU rfl rfl rfl (by omega) rfl ?_) | refine TL.nil ?_ | refine thenQ_normal ?_ | refine T.seq ?_ | refine T.region ?_ | refine T.block ?_ | refine TL.shrU rfl rfl rfl rfl rfl rfl ?_ | (refine TL.isStore ?_; (refine TL.storeWh rfl rfl yB (by exact rfl) (by exact rfl) (by exact rfl) ?_; intro w' hu hbk hsz)))
 rename_i w2 m2 s2
 clear m1
 refine T.loop (S := Nat) (fun k => [(4, .int .i64 (k : Int)), (3, W1 (ck A B C D E k)), (2, .pointer (some ⟨bk, 0, none⟩)), (1, .pointer (some ⟨b1, 0, none⟩))]) (fun k w6 => 1 ≤ k ∧ k ≤ 5 ∧ w' = w6) (fun k => 5 - k) 1 ⟨rfl, rfl, rfl, rfl, trivial⟩ ⟨by omega, by omega, rfl⟩ ?_
 rintro k _ ⟨hk1, hk, rfl⟩
 obtain rfl | rfl | rfl | rfl | rfl : k = 1 ∨ k = 2 ∨ k = 3 ∨ k = 4 ∨ k = 5 := by omega
 ·refine T.weaken (e' := [(4, .int .i64 1), (3, W1 (c1 A)), (2, _), (1, _)]) ?_ ⟨rfl, rfl, rfl, rfl, trivial⟩
  repeat (first | (refine TL.isMove ?_; refine TL.pure rfl rfl ?_) | (refine TL.isAsg ?_; refine TL.pure rfl rfl ?_) | refine TL.load1 rfl yM rfl ?_ | (refine TL.isIndex ?_; refine TL.indexArr rfl rfl (by omega) rfl rfl ?_) | (refine TL.isAdd ?_; first | refine TL.addI rfl rfl (by omega) (by omega) rfl ?_ | refine TL.addU rfl rfl rfl (by omega) rfl ?_) | refine TL.nil ?_ | refine thenQ_normal ?_ | refine T.seq ?_ | refine T.region ?_ | refine T.block ?_ | refine blockQ_normal ?_ | refine TL.shrU rfl rfl rfl rfl rfl rfl ?_ | (refine TL.isBin ?_; refine TL.pure rfl rfl ?_) | refine T.cond_true rfl ?_ | refine T.skip ?_)
  exact loopQ_normal 2 ⟨rfl, rfl, rfl, rfl, trivial⟩ ⟨by omega, by omega, rfl⟩ (by omega)
 ·refine T.weaken (e' := [(4, .int .i64 2), (3, W1 (c2 A B)), (2, _), (1, _)]) ?_ ⟨rfl, rfl, rfl, rfl, trivial⟩
  repeat (first | (refine TL.isMove ?_; refine TL.pure rfl rfl ?_) | (refine TL.isAsg ?_; refine TL.pure rfl rfl ?_) | refine TL.load1 rfl yM rfl ?_ | (refine TL.isIndex ?_; refine TL.indexArr rfl rfl (by omega) rfl rfl ?_) | (refine TL.isAdd ?_; first | refine TL.addI rfl rfl (by omega) (by omega) rfl ?_ | refine TL.addU rfl rfl rfl (by omega) rfl ?_) | refine TL.nil ?_ | refine thenQ_normal ?_ | refine T.seq ?_ | refine T.region ?_ | refine T.block ?_ | refine blockQ_normal ?_ | refine TL.shrU rfl rfl rfl rfl rfl rfl ?_ | (refine TL.isBin ?_; refine TL.pure rfl rfl ?_) | refine T.cond_true rfl ?_ | refine T.skip ?_)
  exact loopQ_normal 3 ⟨rfl, rfl, rfl, rfl, trivial⟩ ⟨by omega, by omega, rfl⟩ (by omega)
 ·refine T.weaken (e' := [(4, .int .i64 3), (3, W1 (c3 A B C)), (2, _), (1, _)]) ?_ ⟨rfl, rfl, rfl, rfl, trivial⟩
  repeat (first | (refine TL.isMove ?_; refine TL.pure rfl rfl ?_) | (refine TL.isAsg ?_; refine TL.pure rfl rfl ?_) | refine TL.load1 rfl yM rfl ?_ | (refine TL.isIndex ?_; refine TL.indexArr rfl rfl (by omega) rfl rfl ?_) | (refine TL.isAdd ?_; first | refine TL.addI rfl rfl (by omega) (by omega) rfl ?_ | refine TL.addU rfl rfl rfl (by omega) rfl ?_) | refine TL.nil ?_ | refine thenQ_normal ?_ | refine T.seq ?_ | refine T.region ?_ | refine T.block ?_ | refine blockQ_normal ?_ | refine TL.shrU rfl rfl rfl rfl rfl rfl ?_ | (refine TL.isBin ?_; refine TL.pure rfl rfl ?_) | refine T.cond_true rfl ?_ | refine T.skip ?_)
  exact loopQ_normal 4 ⟨rfl, rfl, rfl, rfl, trivial⟩ ⟨by omega, by omega, rfl⟩ (by omega)
 ·refine T.weaken (e' := [(4, .int .i64 4), (3, W1 (c4 A B C D)), (2, _), (1, _)]) ?_ ⟨rfl, rfl, rfl, rfl, trivial⟩
  repeat (first | (refine TL.isMove ?_; refine TL.pure rfl rfl ?_) | (refine TL.isAsg ?_; refine TL.pure rfl rfl ?_) | refine TL.load1 rfl yM rfl ?_ | (refine TL.isIndex ?_; refine TL.indexArr rfl rfl (by omega) rfl rfl ?_) | (refine TL.isAdd ?_; first | refine TL.addI rfl rfl (by omega) (by omega) rfl ?_ | refine TL.addU rfl rfl rfl (by omega) rfl ?_) | refine TL.nil ?_ | refine thenQ_normal ?_ | refine T.seq ?_ | refine T.region ?_ | refine T.block ?_ | refine blockQ_normal ?_ | refine TL.shrU rfl rfl rfl rfl rfl rfl ?_ | (refine TL.isBin ?_; refine TL.pure rfl rfl ?_) | refine T.cond_true rfl ?_ | refine T.skip ?_)
  exact loopQ_normal 5 ⟨rfl, rfl, rfl, rfl, trivial⟩ ⟨by omega, by omega, rfl⟩ (by omega)
 ·refine T.weaken (e' := [(4, .int .i64 5), (3, W1 (c5 A B C D E)), (2, _), (1, _)]) ?_ ⟨rfl, rfl, rfl, rfl, trivial⟩
  clear k1 k2 k3 k4
  generalize c5 A B C D E = c0 at *
  repeat (first | (refine TL.isMove ?_; refine TL.pure rfl rfl ?_) | refine TL.load1 rfl yM rfl ?_ | (refine TL.isIndex ?_; refine TL.indexArr rfl rfl (by omega) rfl rfl ?_) | (refine TL.isAdd ?_; refine TL.addU rfl rfl rfl (by omega) rfl ?_) | (refine TL.isMul ?_; refine TL.mulU rfl rfl rfl (by omega) rfl ?_) | refine TL.nil ?_ | refine thenQ_normal ?_ | refine T.seq ?_ | refine T.region ?_ | refine T.block ?_ | (refine TL.isBin ?_; refine TL.pure rfl rfl ?_) | (refine TL.isStore ?_; (refine TL.store1 rfl rfl yB (by exact rfl) (by exact rfl) (by exact rfl) ?_; intro w' hu hbk hsz)) | refine T.cond_false rfl ?_ | refine T.exit ?_ | refine thenQ_exit ?_ | refine blockQ_hit ?_ | refine loopQ_exit ?_)
  rename_i w7 u7 m7 s7
  have hM := carry_all A B C D E c0 h0 h1 h2 h3 h4 k5 hc5
  have h0' : A + 19 * c0 < 2251799813840926 := by omega
  clear k5 hc5 h0
  generalize hA' : A + 19 * c0 = A' at *
  have hbk0 : Blk w' b1 63 (sw A' B C D E 0) := hbk
  clear hbk
  refine T.loop (S := Nat) (fun k => [(29, .int .i64 (k : Int)), (2, .pointer (some ⟨bk, 0, none⟩)), (1, .pointer (some ⟨b1, 0, none⟩))]) (fun k w6 => k ≤ 4 ∧ Blk w6 b1 63 (sw A' B C D E k) ∧ Blk w6 bk 23 zeros ∧ Grow w w6) (fun k => 4 - k) 0 ⟨rfl, rfl, rfl, trivial⟩ ⟨by omega, hbk0, yB, yG⟩ ?_
  rintro k w6 ⟨hk, m3, m4, g6⟩
  clear hbk0 m7 m2
  obtain rfl | rfl | rfl | rfl | rfl : k = 0 ∨ k = 1 ∨ k = 2 ∨ k = 3 ∨ k = 4 := by omega
  ·refine T.weaken (e' := [(29, .int .i64 0), (2, _), (1, _)]) ?_ ⟨rfl, rfl, rfl, trivial⟩
   repeat (first | (refine TL.isMove ?_; refine TL.pure rfl rfl ?_) | (refine TL.isAsg ?_; refine TL.pure rfl rfl ?_) | refine TL.nil ?_ | refine thenQ_normal ?_ | refine T.seq ?_ | refine T.region ?_ | refine T.block ?_ | (refine TL.isBin ?_; refine TL.pure rfl rfl ?_) | refine T.cond_true rfl ?_ | refine T.skip ?_)
   apply T.any 9 [is _, is _, is _, is _, is _, is _, is _, is _, is _]; (· kernel_rfl); (· ((repeat' (first | exact allDo_end | refine allDo_cons ?_ ?_)); (iterate 9 (· ((refine does_mk0 rfl rfl rfl ?_); ( intro wq _ _ hgq; (repeat (refine need_cons rfl rfl ?_; intro vq hvq; try (obtain rfl := hvq))); (refine need_nil ?_)); (repeat (first | (refine TL.isMove ?_; refine TL.pure rfl rfl ?_) | refine TL.load1 rfl yM rfl ?_ | (refine TL.isIndex ?_; refine TL.indexArr rfl rfl (by omega) rfl rfl ?_) | (refine TL.isAdd ?_; first | refine TL.addI rfl rfl (by omega) (by omega) rfl ?_ | refine TL.addU rfl rfl rfl (by omega) rfl ?_) | refine TL.nil ?_ | refine TL.shrU rfl rfl rfl rfl rfl rfl ?_)); exact one_end rfl yG rfl))))); (rintro _ _ _ hgr _ _; (repeat (refine need_cons rfl rfl ?_; intro vq hvq; try (obtain rfl := hvq))); (refine need_nil ?_))
   repeat (first | (refine TL.isMove ?_; refine TL.pure rfl rfl ?_) | refine TL.load1 rfl yM rfl ?_ | (refine TL.isIndex ?_; refine TL.indexArr rfl rfl (by omega) rfl rfl ?_) | (refine TL.isAdd ?_; refine TL.addI rfl rfl (by omega) (by omega) rfl ?_) | (refine TL.isAnd ?_; refine TL.andU rfl rfl rfl rfl (by omega) (by omega) rfl ?_) | refine TL.nil ?_ | refine thenQ_normal ?_ | refine T.region ?_ | refine blockQ_normal ?_ | (refine TL.isStore ?_; (refine TL.store1 rfl rfl yB (by exact rfl) (by exact rfl) (by exact rfl) ?_; intro w' hu hbk hsz)))
   exact loopQ_normal 1 ⟨rfl, rfl, rfl, trivial⟩ ⟨by omega, by assumption, yB, yG⟩ (by omega)
  ·refine T.weaken (e' := [(29, .int .i64 1), (2, _), (1, _)]) ?_ ⟨rfl, rfl, rfl, trivial⟩
   repeat (first | (refine TL.isMove ?_; refine TL.pure rfl rfl ?_) | (refine TL.isAsg ?_; refine TL.pure rfl rfl ?_) | refine TL.nil ?_ | refine thenQ_normal ?_ | refine T.seq ?_ | refine T.region ?_ | refine T.block ?_ | (refine TL.isBin ?_; refine TL.pure rfl rfl ?_) | refine T.cond_true rfl ?_ | refine T.skip ?_)
   apply T.any 9 [is _, is _, is _, is _, is _, is _, is _, is _, is _]; (· kernel_rfl); (· ((repeat' (first | exact allDo_end | refine allDo_cons ?_ ?_)); (iterate 9 (· ((refine does_mk0 rfl rfl rfl ?_); ( intro wq _ _ hgq; (repeat (refine need_cons rfl rfl ?_; intro vq hvq; try (obtain rfl := hvq))); (refine need_nil ?_)); (repeat (first | (refine TL.isMove ?_; refine TL.pure rfl rfl ?_) | refine TL.load1 rfl yM rfl ?_ | (refine TL.isIndex ?_; refine TL.indexArr rfl rfl (by omega) rfl rfl ?_) | (refine TL.isAdd ?_; first | refine TL.addI rfl rfl (by omega) (by omega) rfl ?_ | refine TL.addU rfl rfl rfl (by omega) rfl ?_) | refine TL.nil ?_ | refine TL.shrU rfl rfl rfl rfl rfl rfl ?_)); exact one_end rfl yG rfl))))); (rintro _ _ _ hgr _ _; (repeat (refine need_cons rfl rfl ?_; intro vq hvq; try (obtain rfl := hvq))); (refine need_nil ?_))
   repeat (first | (refine TL.isMove ?_; refine TL.pure rfl rfl ?_) | refine TL.load1 rfl yM rfl ?_ | (refine TL.isIndex ?_; refine TL.indexArr rfl rfl (by omega) rfl rfl ?_) | (refine TL.isAdd ?_; refine TL.addI rfl rfl (by omega) (by omega) rfl ?_) | (refine TL.isAnd ?_; refine TL.andU rfl rfl rfl rfl (by omega) (by omega) rfl ?_) | refine TL.nil ?_ | refine thenQ_normal ?_ | refine T.region ?_ | refine blockQ_normal ?_ | (refine TL.isStore ?_; (refine TL.store1 rfl rfl yB (by exact rfl) (by exact rfl) (by exact rfl) ?_; intro w' hu hbk hsz)))
   exact loopQ_normal 2 ⟨rfl, rfl, rfl, trivial⟩ ⟨by omega, by assumption, yB, yG⟩ (by omega)
  ·refine T.weaken (e' := [(29, .int .i64 2), (2, _), (1, _)]) ?_ ⟨rfl, rfl, rfl, trivial⟩
   repeat (first | (refine TL.isMove ?_; refine TL.pure rfl rfl ?_) | (refine TL.isAsg ?_; refine TL.pure rfl rfl ?_) | refine TL.nil ?_ | refine thenQ_normal ?_ | refine T.seq ?_ | refine T.region ?_ | refine T.block ?_ | (refine TL.isBin ?_; refine TL.pure rfl rfl ?_) | refine T.cond_true rfl ?_ | refine T.skip ?_)
   apply T.any 9 [is _, is _, is _, is _, is _, is _, is _, is _, is _]; (· kernel_rfl); (· ((repeat' (first | exact allDo_end | refine allDo_cons ?_ ?_)); (iterate 9 (· ((refine does_mk0 rfl rfl rfl ?_); ( intro wq _ _ hgq; (repeat (refine need_cons rfl rfl ?_; intro vq hvq; try (obtain rfl := hvq))); (refine need_nil ?_)); (repeat (first | (refine TL.isMove ?_; refine TL.pure rfl rfl ?_) | refine TL.load1 rfl yM rfl ?_ | (refine TL.isIndex ?_; refine TL.indexArr rfl rfl (by omega) rfl rfl ?_) | (refine TL.isAdd ?_; first | refine TL.addI rfl rfl (by omega) (by omega) rfl ?_ | refine TL.addU rfl rfl rfl (by omega) rfl ?_) | refine TL.nil ?_ | refine TL.shrU rfl rfl rfl rfl rfl rfl ?_)); exact one_end rfl yG rfl))))); (rintro _ _ _ hgr _ _; (repeat (refine need_cons rfl rfl ?_; intro vq hvq; try (obtain rfl := hvq))); (refine need_nil ?_))
   repeat (first | (refine TL.isMove ?_; refine TL.pure rfl rfl ?_) | refine TL.load1 rfl yM rfl ?_ | (refine TL.isIndex ?_; refine TL.indexArr rfl rfl (by omega) rfl rfl ?_) | (refine TL.isAdd ?_; refine TL.addI rfl rfl (by omega) (by omega) rfl ?_) | (refine TL.isAnd ?_; refine TL.andU rfl rfl rfl rfl (by omega) (by omega) rfl ?_) | refine TL.nil ?_ | refine thenQ_normal ?_ | refine T.region ?_ | refine blockQ_normal ?_ | (refine TL.isStore ?_; (refine TL.store1 rfl rfl yB (by exact rfl) (by exact rfl) (by exact rfl) ?_; intro w' hu hbk hsz)))
   exact loopQ_normal 3 ⟨rfl, rfl, rfl, trivial⟩ ⟨by omega, by assumption, yB, yG⟩ (by omega)
  ·refine T.weaken (e' := [(29, .int .i64 3), (2, _), (1, _)]) ?_ ⟨rfl, rfl, rfl, trivial⟩
   repeat (first | (refine TL.isMove ?_; refine TL.pure rfl rfl ?_) | (refine TL.isAsg ?_; refine TL.pure rfl rfl ?_) | refine TL.nil ?_ | refine thenQ_normal ?_ | refine T.seq ?_ | refine T.region ?_ | refine T.block ?_ | (refine TL.isBin ?_; refine TL.pure rfl rfl ?_) | refine T.cond_true rfl ?_ | refine T.skip ?_)
   apply T.any 9 [is _, is _, is _, is _, is _, is _, is _, is _, is _]; (· kernel_rfl); (· ((repeat' (first | exact allDo_end | refine allDo_cons ?_ ?_)); (iterate 9 (· ((refine does_mk0 rfl rfl rfl ?_); ( intro wq _ _ hgq; (repeat (refine need_cons rfl rfl ?_; intro vq hvq; try (obtain rfl := hvq))); (refine need_nil ?_)); (repeat (first | (refine TL.isMove ?_; refine TL.pure rfl rfl ?_) | refine TL.load1 rfl yM rfl ?_ | (refine TL.isIndex ?_; refine TL.indexArr rfl rfl (by omega) rfl rfl ?_) | (refine TL.isAdd ?_; first | refine TL.addI rfl rfl (by omega) (by omega) rfl ?_ | refine TL.addU rfl rfl rfl (by omega) rfl ?_) | refine TL.nil ?_ | refine TL.shrU rfl rfl rfl rfl rfl rfl ?_)); exact one_end rfl yG rfl))))); (rintro _ _ _ hgr _ _; (repeat (refine need_cons rfl rfl ?_; intro vq hvq; try (obtain rfl := hvq))); (refine need_nil ?_))
   repeat (first | (refine TL.isMove ?_; refine TL.pure rfl rfl ?_) | refine TL.load1 rfl yM rfl ?_ | (refine TL.isIndex ?_; refine TL.indexArr rfl rfl (by omega) rfl rfl ?_) | (refine TL.isAdd ?_; refine TL.addI rfl rfl (by omega) (by omega) rfl ?_) | (refine TL.isAnd ?_; refine TL.andU rfl rfl rfl rfl (by omega) (by omega) rfl ?_) | refine TL.nil ?_ | refine thenQ_normal ?_ | refine T.region ?_ | refine blockQ_normal ?_ | (refine TL.isStore ?_; (refine TL.store1 rfl rfl yB (by exact rfl) (by exact rfl) (by exact rfl) ?_; intro w' hu hbk hsz)))
   exact loopQ_normal 4 ⟨rfl, rfl, rfl, trivial⟩ ⟨by omega, by assumption, yB, yG⟩ (by omega)
  ·refine T.weaken (e' := [(29, .int .i64 4), (2, _), (1, _)]) ?_ ⟨rfl, rfl, rfl, trivial⟩
   repeat (first | refine TL.load1 rfl yM rfl ?_ | (refine TL.isIndex ?_; refine TL.indexArr rfl rfl (by omega) rfl rfl ?_) | (refine TL.isAnd ?_; refine TL.andU rfl rfl rfl rfl (by omega) (by omega) rfl ?_) | refine TL.nil ?_ | refine thenQ_normal ?_ | refine T.seq ?_ | refine T.region ?_ | (refine TL.isBin ?_; refine TL.pure rfl rfl ?_) | (refine TL.isStore ?_; (refine TL.store1 rfl rfl yB (by exact rfl) (by exact rfl) (by exact rfl) ?_; intro w' hu hbk hsz)) | (refine TL.isAlloc ?_; (refine TL.alloc rfl rfl ?_; intro bk w' hg hbk hsz hsz')) | refine T.cond_false rfl ?_ | refine T.exit ?_ | refine thenQ_exit ?_ | refine blockQ_hit ?_ | refine loopQ_exit ?_)
   rename_i w8 m8 s8
   have n8 : Blk w8 b1 63 [W1 (A' % 2251799813685248), W1 ((B + A' / 2251799813685248) % 2251799813685248), W1 ((C + (B + A' / 2251799813685248) / 2251799813685248) % 2251799813685248), W1 ((D + (C + (B + A' / 2251799813685248) / 2251799813685248) / 2251799813685248) % 2251799813685248), W1 ((E + (D + (C + (B + A' / 2251799813685248) / 2251799813685248) / 2251799813685248) / 2251799813685248) % 2251799813685248)] := m8
   have n9 := n8.lt
   have m9 := m4.lt
   clear m8 m3 h0' h1 h2 h3 h4
   have e0 : A' % 2251799813685248 < 2251799813685248 := Nat.mod_lt _ (by decide)
   have e1 : (B + A' / 2251799813685248) % 2251799813685248 < 2251799813685248 := Nat.mod_lt _ (by decide)
   have e2 : (C + (B + A' / 2251799813685248) / 2251799813685248) % 2251799813685248 < 2251799813685248 := Nat.mod_lt _ (by decide)
   have e3 : (D + (C + (B + A' / 2251799813685248) / 2251799813685248) / 2251799813685248) % 2251799813685248 < 2251799813685248 := Nat.mod_lt _ (by decide)
   have e4 : (E + (D + (C + (B + A' / 2251799813685248) / 2251799813685248) / 2251799813685248) / 2251799813685248) % 2251799813685248 < 2251799813685248 := Nat.mod_lt _ (by decide)
   generalize (E + (D + (C + (B + A' / 2251799813685248) / 2251799813685248) / 2251799813685248) / 2251799813685248) % 2251799813685248 = x4 at *
   generalize (D + (C + (B + A' / 2251799813685248) / 2251799813685248) / 2251799813685248) % 2251799813685248 = x3 at *
   generalize (C + (B + A' / 2251799813685248) / 2251799813685248) % 2251799813685248 = x2 at *
   generalize (B + A' / 2251799813685248) % 2251799813685248 = x1 at *
   generalize A' % 2251799813685248 = x0 at *
   rw [hM]
   have r0 : x0 + x1 * 2251799813685248 % 18446744073709551616 = q0 (V5 x0 x1 x2 x3 x4) := by clear hM; unfold q0 V5; omega
   have r1 : x1 / 8192 + x2 * 274877906944 % 18446744073709551616 = q1 (V5 x0 x1 x2 x3 x4) := by clear hM; unfold q1 V5; omega
   have r2 : x2 / 67108864 + x3 * 33554432 % 18446744073709551616 = q2 (V5 x0 x1 x2 x3 x4) := by clear hM; unfold q2 V5; omega
   have r3 : x3 / 549755813888 + x4 * 4096 = q3 (V5 x0 x1 x2 x3 x4) := by clear hM; unfold q3 V5; omega
   generalize V5 x0 x1 x2 x3 x4 = M at *
   apply T.any 7 [is _, is _, is _, is _, is _, is _, is _]; (· kernel_rfl); (· ((repeat' (first | exact allDo_end | refine allDo_cons ?_ ?_)); (iterate 7 (· ((refine does_mk0 rfl rfl rfl ?_); ( intro wq _ _ hgq; (repeat (refine need_cons rfl rfl ?_; intro vq hvq; try (obtain rfl := hvq))); (refine need_nil ?_)); (repeat (first | refine TL.load1 rfl yM rfl ?_ | (refine TL.isIndex ?_; refine TL.indexArr rfl rfl (by omega) rfl rfl ?_) | refine TL.nil ?_ | (refine TL.isOr ?_; refine TL.orMW rfl rfl rfl rfl rfl (by omega) rfl rfl ?_) | refine TL.shlW rfl rfl rfl rfl rfl rfl ?_ | (refine TL.isSlice ?_; refine TL.sliceArr rfl (bnd_lit rfl) (bnd_lit rfl) (by omega) (by omega) (by omega) rfl rfl ?_))); exact one_end rfl yG rfl))))); (rintro _ _ _ hgr _ _; (repeat (refine need_cons rfl rfl ?_; intro vq hvq; try (obtain rfl := hvq))); (refine need_nil ?_))
   rw [r0]
   refine TL.call rfl (put_c _ _ _ _ _ _ _ yB (by exact Nat.le_of_ble_eq_true rfl)) rfl ?_
   rintro _ v0 ⟨rfl, hu0, hb0⟩
   have hc0 : Blk v0 bk 23 (b8 (q0 M) ++ zs 24) := hb0
   clear hb0 hbk
   repeat (first | refine TL.nil ?_ | refine thenQ_normal ?_ | refine T.seq ?_)
   apply T.any 8 [is _, is _, is _, is _, is _, is _, is _, is _]; (· kernel_rfl); (· ((repeat' (first | exact allDo_end | refine allDo_cons ?_ ?_)); (iterate 8 (· ((refine does_mk0 rfl rfl rfl ?_); ( intro wq _ _ hgq; (repeat (refine need_cons rfl rfl ?_; intro vq hvq; try (obtain rfl := hvq))); (refine need_nil ?_)); (repeat (first | refine TL.load1 rfl yM rfl ?_ | (refine TL.isIndex ?_; refine TL.indexArr rfl rfl (by omega) rfl rfl ?_) | refine TL.nil ?_ | (refine TL.isOr ?_; refine TL.orMW rfl rfl rfl rfl rfl (by omega) rfl rfl ?_) | refine TL.shlW rfl rfl rfl rfl rfl rfl ?_ | refine TL.shrU rfl rfl rfl rfl rfl rfl ?_ | (refine TL.isSlice ?_; refine TL.sliceArr rfl (bnd_lit rfl) (bnd_lit rfl) (by omega) (by omega) (by omega) rfl rfl ?_))); exact one_end rfl yG rfl))))); (rintro _ _ _ hgr _ _; (repeat (refine need_cons rfl rfl ?_; intro vq hvq; try (obtain rfl := hvq))); (refine need_nil ?_))
   rw [r1]
   refine TL.call rfl (put_c _ _ _ _ _ _ _ yB (by exact Nat.le_of_ble_eq_true rfl)) rfl ?_
   rintro _ v1 ⟨rfl, hu1, hb1⟩
   have hc1 : Blk v1 bk 23 (b8 (q0 M) ++ (b8 (q1 M) ++ zs 16)) := hb1
   clear hb1 hc0
   repeat (first | refine TL.nil ?_ | refine thenQ_normal ?_ | refine T.seq ?_)
   apply T.any 8 [is _, is _, is _, is _, is _, is _, is _, is _]; (· kernel_rfl); (· ((repeat' (first | exact allDo_end | refine allDo_cons ?_ ?_)); (iterate 8 (· ((refine does_mk0 rfl rfl rfl ?_); ( intro wq _ _ hgq; (repeat (refine need_cons rfl rfl ?_; intro vq hvq; try (obtain rfl := hvq))); (refine need_nil ?_)); (repeat (first | refine TL.load1 rfl yM rfl ?_ | (refine TL.isIndex ?_; refine TL.indexArr rfl rfl (by omega) rfl rfl ?_) | refine TL.nil ?_ | (refine TL.isOr ?_; refine TL.orMW rfl rfl rfl rfl rfl (by omega) rfl rfl ?_) | refine TL.shlW rfl rfl rfl rfl rfl rfl ?_ | refine TL.shrU rfl rfl rfl rfl rfl rfl ?_ | (refine TL.isSlice ?_; refine TL.sliceArr rfl (bnd_lit rfl) (bnd_lit rfl) (by omega) (by omega) (by omega) rfl rfl ?_))); exact one_end rfl yG rfl))))); (rintro _ _ _ hgr _ _; (repeat (refine need_cons rfl rfl ?_; intro vq hvq; try (obtain rfl := hvq))); (refine need_nil ?_))
   rw [r2]
   refine TL.call rfl (put_c _ _ _ _ _ _ _ yB (by exact Nat.le_of_ble_eq_true rfl)) rfl ?_
   rintro _ v2 ⟨rfl, hu2, hb2⟩
   have hc2 : Blk v2 bk 23 (b8 (q0 M) ++ (b8 (q1 M) ++ (b8 (q2 M) ++ zs 8))) := hb2
   clear hb2 hc1
   repeat (first | refine TL.nil ?_ | refine thenQ_normal ?_ | refine T.seq ?_)
   apply T.any 8 [is _, is _, is _, is _, is _, is _, is _, is _]; (· kernel_rfl); (· ((repeat' (first | exact allDo_end | refine allDo_cons ?_ ?_)); (iterate 8 (· ((refine does_mk0 rfl rfl rfl ?_); ( intro wq _ _ hgq; (repeat (refine need_cons rfl rfl ?_; intro vq hvq; try (obtain rfl := hvq))); (refine need_nil ?_)); (repeat (first | refine TL.load1 rfl yM rfl ?_ | (refine TL.isIndex ?_; refine TL.indexArr rfl rfl (by omega) rfl rfl ?_) | refine TL.nil ?_ | (refine TL.isOr ?_; refine TL.orM rfl rfl rfl rfl rfl (by omega) (by omega) rfl rfl ?_) | (refine TL.isShl ?_; refine TL.shlU rfl rfl rfl rfl rfl (by omega) rfl ?_) | refine TL.shrU rfl rfl rfl rfl rfl rfl ?_ | (refine TL.isSlice ?_; refine TL.sliceArr rfl (bnd_lit rfl) (bnd_lit rfl) (by omega) (by omega) (by omega) rfl rfl ?_))); exact one_end rfl yG rfl))))); (rintro _ _ _ hgr _ _; (repeat (refine need_cons rfl rfl ?_; intro vq hvq; try (obtain rfl := hvq))); (refine need_nil ?_))
   rw [r3]
   refine TL.call rfl (put_c _ _ _ _ _ _ _ yB (by exact Nat.le_of_ble_eq_true rfl)) rfl ?_
   rintro _ v3 ⟨rfl, hu3, hb3⟩
   have hc3 : Blk v3 bk 23 (numL M) := hb3
   clear hb3 hc2
   repeat (first | (refine TL.isLoad ?_; refine TL.loadW rfl yB (by exact rfl) rfl ?_) | refine TL.nil ?_ | refine thenQ_normal ?_ | refine T.seq ?_ | refine T.region ?_ | (refine TL.isStore ?_; (refine TL.storeWh rfl rfl yB (by exact rfl) (by exact rfl) (by exact rfl) ?_; intro w' hu hbk hsz)) | refine T.ret ?_)
   exact retC rfl (load_whole (by assumption) rfl) ⟨_, rfl, rfl, yG⟩
end Go.Proofs.Ytmpjigghgedjbaa
namespace Go.Proofs.Ytmpjigghgedjbaa
open Go Go.RowKit Go.V
theorem mul64_c (x y : Nat) (hx : x < 18446744073709551616) (hy : y < 18446744073709551616) (w : World) :
  Calls Try.prog 100 #[W1 x, W1 y] w (Ret fun v w' => v = .tuple #[W1 (x * y / 18446744073709551616), W1 (x * y % 18446744073709551616)] ∧ Grow w w') := by
 refine V.calls (args := [_, _]) Try.func100 rfl Try.ntmps100 rfl rfl ?_
 have ha := Lib.half_mul_le (a := x / 4294967296) (b := y / 4294967296) (by omega) (by omega)
 have hb := Lib.half_mul_le (a := x / 4294967296) (b := y % 4294967296) (by omega) (by omega)
 have hc := Lib.half_mul_le (a := x % 4294967296) (b := y / 4294967296) (by omega) (by omega)
 have hd := Lib.half_mul_le (a := x % 4294967296) (b := y % 4294967296) (by omega) (by omega)
 have hl := (Lib.mul64_hi x y hx hy).2.2.2
 repeat (first | (refine TL.isMove ?_; refine TL.pure rfl rfl ?_) | (refine TL.isAsg ?_; refine TL.pure rfl rfl ?_) | (refine TL.isAdd ?_; refine TL.addU rfl rfl rfl (by omega) rfl ?_) | (refine TL.isMul ?_; first | refine TL.mulU rfl rfl rfl (by omega) rfl ?_ | refine TL.mulW rfl rfl rfl rfl ?_) | (refine TL.isAnd ?_; refine TL.andU rfl rfl rfl rfl (by omega) (by omega) rfl ?_) | refine TL.nil ?_ | refine thenQ_normal ?_ | refine T.seq ?_ | refine T.region ?_ | refine TL.shrU rfl rfl rfl rfl rfl rfl ?_ | refine T.ret ?_)
 refine ret2 rfl rfl ⟨_, rfl, ?_, yG⟩
 rw [hl]
abbrev wide (s : Nat) : Value := .agg #[W1 (s / 18446744073709551616), W1 (s % 18446744073709551616)]
theorem add64_row : Extern.allRows.lookup "math/bits.Add64" = some (Extern.MathBitsCarry.rows[0]'(by decide)).2 := by kernel_rfl
theorem add64_run {P : Program} (x y c : Nat) (hc : c ≤ 1) (w : World) : ((Extern.MathBitsCarry.rows[0]'(by decide)).2 #[W1 x, W1 y, W1 c]).run P w = .ok (.tuple #[W1 ((x + y + c) % 18446744073709551616), W1 ((x + y + c) / 18446744073709551616)]) w := by
 obtain rfl | rfl : c = 0 ∨ c = 1 := by omega
 ·rfl
 ·rfl
theorem plus_c (s a b : Nat) (ha : a < 18446744073709551616) (hb : b < 18446744073709551616) (hs : s + a * b < 340282366920938463463374607431768211456) (w : World) :
  Calls Try.prog 94 #[wide s, W1 a, W1 b] w (Ret fun v w' => v = wide (s + a * b) ∧ Grow w w') := by
 refine V.calls (args := [_, _, _]) Try.func94 rfl Try.ntmps94 rfl rfl ?_
 repeat (first | (refine TL.isMove ?_; refine TL.pure rfl rfl ?_) | refine TL.nil ?_ | refine thenQ_normal ?_ | refine T.seq ?_ | refine T.region ?_ | (refine TL.isBox ?_; (refine TL.box rfl rfl rfl ?_; intro bk w' hg hbk hsz hsz')) | (refine TL.isAlloc ?_; (refine TL.alloc rfl rfl ?_; intro bk w' hg hbk hsz hsz')))
 refine TL.call rfl (mul64_c a b ha hb _) rfl ?_
 rintro _ w2 ⟨rfl, hg2⟩
 generalize a * b = p at *
 repeat (first | (refine TL.isMove ?_; refine TL.pure rfl rfl ?_) | (refine TL.isAsg ?_; refine TL.pure rfl rfl ?_) | refine TL.load1 rfl yM rfl ?_ | refine TL.fieldAddr rfl rfl ?_ | refine TL.nil ?_ | refine thenQ_normal ?_ | refine T.seq ?_ | refine T.region ?_ | refine TL.pure rfl rfl ?_)
 refine TL.ext rfl add64_row (add64_run _ _ 0 (by omega) _) rfl ?_
 repeat (first | (refine TL.isMove ?_; refine TL.pure rfl rfl ?_) | (refine TL.isAsg ?_; refine TL.pure rfl rfl ?_) | refine TL.load1 rfl yM rfl ?_ | refine TL.fieldAddr rfl rfl ?_ | refine TL.nil ?_ | refine thenQ_normal ?_ | refine T.seq ?_ | refine T.region ?_ | refine TL.pure rfl rfl ?_)
 refine TL.ext rfl add64_row (add64_run _ _ _ (by omega) _) rfl ?_
 repeat (first | (refine TL.isMove ?_; refine TL.pure rfl rfl ?_) | (refine TL.isAsg ?_; refine TL.pure rfl rfl ?_) | refine TL.nil ?_ | refine thenQ_normal ?_ | refine T.seq ?_ | refine T.region ?_ | (refine TL.isStore ?_; (refine TL.storeWh rfl rfl yB (by exact rfl) (by exact rfl) (by exact rfl) ?_; intro w' hu hbk hsz)) | refine TL.build rfl rfl rfl ?_ | refine T.ret ?_ | refine TL.pure rfl rfl ?_)
 have e1 : (s / 18446744073709551616 + p / 18446744073709551616 + (s % 18446744073709551616 + p % 18446744073709551616 + 0) / 18446744073709551616) % 18446744073709551616 = (s + p) / 18446744073709551616 := by omega
 have e2 : (s % 18446744073709551616 + p % 18446744073709551616 + 0) % 18446744073709551616 = (s + p) % 18446744073709551616 := by omega
 refine retC rfl (load_whole (by assumption) rfl) ⟨_, rfl, ?_, yG⟩
 show Value.agg #[W1 _, W1 _] = _
 rw [e1, e2]
theorem upper_c (s : Nat) (hs : s < 340282366920938463463374607431768211456) (w : World) :
  Calls Try.prog 95 #[wide s] w (Ret fun v w' => v = W1 (s / 2251799813685248 % 18446744073709551616) ∧ Grow w w') := by
 refine V.calls (args := [_]) Try.func95 rfl Try.ntmps95 rfl rfl ?_
 repeat (first | (refine TL.isAsg ?_; refine TL.pure rfl rfl ?_) | refine TL.load1 rfl yM rfl ?_ | refine TL.fieldAddr rfl rfl ?_ | refine TL.nil ?_ | refine thenQ_normal ?_ | refine T.seq ?_ | refine T.region ?_ | (refine TL.isOr ?_; refine TL.orL rfl rfl rfl rfl rfl (by omega) rfl rfl ?_) | refine TL.shlW rfl rfl rfl rfl rfl rfl ?_ | refine TL.shrU rfl rfl rfl rfl rfl rfl ?_ | (refine TL.isBox ?_; (refine TL.box rfl rfl rfl ?_; intro bk w' hg hbk hsz hsz')) | refine T.ret ?_)
 refine ret1 rfl ⟨_, rfl, ?_, yG⟩
 rw [show s / 18446744073709551616 * 8192 % 18446744073709551616 + s % 18446744073709551616 / 2251799813685248 = s / 2251799813685248 % 18446744073709551616 by omega]
end Go.Proofs.Ytmpjigghgedjbaa
namespace Go.Proofs.Ytmpjigghgedjbaa
open Go Go.RowKit Go.V
def Kept (p : Prop) : Prop := p
theorem mul_lt {x y X Y : Nat} (hx : x < X) (hy : y < Y) : x * y < X * Y := Nat.mul_lt_mul'' hx hy
theorem prod_id (a0 a1 a2 a3 a4 b0 b1 b2 b3 b4 : Nat) : V5 a0 a1 a2 a3 a4 * V5 b0 b1 b2 b3 b4 =
  V5 (0 + a0 * b0 + 19 * a1 * b4 + 19 * a2 * b3 + 19 * a3 * b2 + 19 * a4 * b1) (0 + a0 * b1 + a1 * b0 + 19 * a2 * b4 + 19 * a3 * b3 + 19 * a4 * b2)
  (0 + a0 * b2 + a1 * b1 + a2 * b0 + 19 * a3 * b4 + 19 * a4 * b3) (0 + a0 * b3 + a1 * b2 + a2 * b1 + a3 * b0 + 19 * a4 * b4) (0 + a0 * b4 + a1 * b3 + a2 * b2 + a3 * b1 + a4 * b0)
  + p25519 * (a1 * b4 + a2 * b3 + a3 * b2 + a4 * b1 + 2251799813685248 * (a2 * b4 + a3 * b3 + a4 * b2) + 5070602400912917605986812821504 * (a3 * b4 + a4 * b3) + 11417981541647679048466287755595961091061972992 * (a4 * b4)) := by
 unfold V5 p25519
 grind
theorem fold_id (S0 S1 S2 S3 S4 : Nat) : V5 (S0 % 2251799813685248 + 19 * (S4 / 2251799813685248)) (S1 % 2251799813685248 + S0 / 2251799813685248) (S2 % 2251799813685248 + S1 / 2251799813685248) (S3 % 2251799813685248 + S2 / 2251799813685248) (S4 % 2251799813685248 + S3 / 2251799813685248) + p25519 * (S4 / 2251799813685248) = V5 S0 S1 S2 S3 S4 := by
 unfold V5 p25519
 omega
theorem fold_mod (S0 S1 S2 S3 S4 : Nat) : V5 (S0 % 2251799813685248 + 19 * (S4 / 2251799813685248)) (S1 % 2251799813685248 + S0 / 2251799813685248) (S2 % 2251799813685248 + S1 / 2251799813685248) (S3 % 2251799813685248 + S2 / 2251799813685248) (S4 % 2251799813685248 + S3 / 2251799813685248) % p25519 = V5 S0 S1 S2 S3 S4 % p25519 := by
 rw [← fold_id S0 S1 S2 S3 S4, Nat.add_mul_mod_self_left]
theorem product_law (a0 a1 a2 a3 a4 b0 b1 b2 b3 b4 S0 S1 S2 S3 S4 : Nat)
  (hs0 : 0 + a0 * b0 + 19 * a1 * b4 + 19 * a2 * b3 + 19 * a3 * b2 + 19 * a4 * b1 = S0)
  (hs1 : 0 + a0 * b1 + a1 * b0 + 19 * a2 * b4 + 19 * a3 * b3 + 19 * a4 * b2 = S1)
  (hs2 : 0 + a0 * b2 + a1 * b1 + a2 * b0 + 19 * a3 * b4 + 19 * a4 * b3 = S2)
  (hs3 : 0 + a0 * b3 + a1 * b2 + a2 * b1 + a3 * b0 + 19 * a4 * b4 = S3)
  (hs4 : 0 + a0 * b4 + a1 * b3 + a2 * b2 + a3 * b1 + a4 * b0 = S4)
  (h0 : S0 < 24987928631698857962303013584371712) (h1 : S1 < 19146594665847176880206205213999104) (h2 : S2 < 13305260699995495798109396843626496) (h3 : S3 < 7463926734143814716012588473253888) (h4 : S4 < 1622592768292133633915780102881280) :
  ∃ r0 r1 r2 r3 r4,
  wds ((S0 % 18446744073709551616 % 2251799813685248 + 19 * (S4 / 2251799813685248 % 18446744073709551616)) % 2251799813685248 + 19 * ((S4 % 18446744073709551616 % 2251799813685248 + S3 / 2251799813685248 % 18446744073709551616) / 2251799813685248))
   ((S1 % 18446744073709551616 % 2251799813685248 + S0 / 2251799813685248 % 18446744073709551616) % 2251799813685248 + (S0 % 18446744073709551616 % 2251799813685248 + 19 * (S4 / 2251799813685248 % 18446744073709551616)) / 2251799813685248)
   ((S2 % 18446744073709551616 % 2251799813685248 + S1 / 2251799813685248 % 18446744073709551616) % 2251799813685248 + (S1 % 18446744073709551616 % 2251799813685248 + S0 / 2251799813685248 % 18446744073709551616) / 2251799813685248)
   ((S3 % 18446744073709551616 % 2251799813685248 + S2 / 2251799813685248 % 18446744073709551616) % 2251799813685248 + (S2 % 18446744073709551616 % 2251799813685248 + S1 / 2251799813685248 % 18446744073709551616) / 2251799813685248)
   ((S4 % 18446744073709551616 % 2251799813685248 + S3 / 2251799813685248 % 18446744073709551616) % 2251799813685248 + (S3 % 18446744073709551616 % 2251799813685248 + S2 / 2251799813685248 % 18446744073709551616) / 2251799813685248) = wds r0 r1 r2 r3 r4 ∧
  (r0 < 4503599627370496 ∧ r1 < 4503599627370496 ∧ r2 < 4503599627370496 ∧ r3 < 4503599627370496 ∧ r4 < 4503599627370496) ∧
  V5 r0 r1 r2 r3 r4 % p25519 = V5 a0 a1 a2 a3 a4 * V5 b0 b1 b2 b3 b4 % p25519 := by
 refine ⟨_, _, _, _, _, rfl, ?_, ?_⟩
 ·clear hs0 hs1 hs2 hs3 hs4
  refine ⟨by omega, by omega, by omega, by omega, by omega⟩
 ·rw [fold_mod]
  have e0 : S0 % 18446744073709551616 % 2251799813685248 = S0 % 2251799813685248 := by omega
  have e1 : S1 % 18446744073709551616 % 2251799813685248 = S1 % 2251799813685248 := by omega
  have e2 : S2 % 18446744073709551616 % 2251799813685248 = S2 % 2251799813685248 := by omega
  have e3 : S3 % 18446744073709551616 % 2251799813685248 = S3 % 2251799813685248 := by omega
  have e4 : S4 % 18446744073709551616 % 2251799813685248 = S4 % 2251799813685248 := by omega
  have f0 : S0 / 2251799813685248 % 18446744073709551616 = S0 / 2251799813685248 := by omega
  have f1 : S1 / 2251799813685248 % 18446744073709551616 = S1 / 2251799813685248 := by omega
  have f2 : S2 / 2251799813685248 % 18446744073709551616 = S2 / 2251799813685248 := by omega
  have f3 : S3 / 2251799813685248 % 18446744073709551616 = S3 / 2251799813685248 := by omega
  have f4 : S4 / 2251799813685248 % 18446744073709551616 = S4 / 2251799813685248 := by omega
  rw [e0, e1, e2, e3, e4, f0, f1, f2, f3, f4, fold_mod, prod_id, hs0, hs1, hs2, hs3, hs4, Nat.add_mul_mod_self_left]
theorem product_c (ba bb a0 a1 a2 a3 a4 b0 b1 b2 b3 b4 : Nat) (w : World) (hA : Blk w ba 63 [W1 a0, W1 a1, W1 a2, W1 a3, W1 a4]) (hB : Blk w bb 63 [W1 b0, W1 b1, W1 b2, W1 b3, W1 b4])
  (ha0 : a0 < 18014398509481984)
  (ha1 : a1 < 18014398509481984)
  (ha2 : a2 < 18014398509481984)
  (ha3 : a3 < 18014398509481984)
  (ha4 : a4 < 18014398509481984)
  (hb0 : b0 < 18014398509481984)
  (hb1 : b1 < 18014398509481984)
  (hb2 : b2 < 18014398509481984)
  (hb3 : b3 < 18014398509481984)
  (hb4 : b4 < 18014398509481984)
  : Calls Try.prog 71 #[.pointer (some ⟨ba, 0, none⟩), .pointer (some ⟨bb, 0, none⟩)] w (Ret fun v w' => ∃ r0 r1 r2 r3 r4, v = wds r0 r1 r2 r3 r4 ∧ ((r0 < 4503599627370496 ∧ r1 < 4503599627370496 ∧ r2 < 4503599627370496 ∧ r3 < 4503599627370496 ∧ r4 < 4503599627370496) ∧ V5 r0 r1 r2 r3 r4 % p25519 = V5 a0 a1 a2 a3 a4 * V5 b0 b1 b2 b3 b4 % p25519) ∧ Grow w w') := by
 refine V.calls (args := [_, _]) Try.func71 rfl Try.ntmps71 rfl rfl ?_
 have hA0 := hA.lt
 have hB0 := hB.lt
 repeat (first | refine TL.nil ?_ | refine thenQ_normal ?_ | refine T.seq ?_ | refine T.region ?_ | (refine TL.isAlloc ?_; (refine TL.alloc rfl rfl ?_; intro bk w' hg hbk hsz hsz')))
 replace hbk : Blk w' bk 63 [W1 0, W1 0, W1 0, W1 0, W1 0] := hbk
 have hRl : w.heap.size ≤ bk := by omega
 apply T.any 24 [is _, is _, is _, is _, is _, is _, is _, is _, is _, is _, is _, is _, is _, is _, is _, is _, is _, is _, is _, is _, is _, is _, is _, is _]; (· kernel_rfl); (· ((repeat' (first | exact allDo_end | refine allDo_cons ?_ ?_)); (iterate 24 (· ((refine does_mk0 rfl rfl rfl ?_); ( intro wq _ _ hgq; (repeat (refine need_cons rfl rfl ?_; intro vq hvq; try (obtain rfl := hvq))); (refine need_nil ?_)); (repeat (first | (refine TL.isMove ?_; refine TL.pure rfl rfl ?_) | (refine TL.isAsg ?_; refine TL.pure rfl rfl ?_) | refine TL.load1 rfl yM rfl ?_ | (refine TL.isIndex ?_; refine TL.indexArr rfl rfl (by omega) rfl rfl ?_) | (refine TL.isMul ?_; refine TL.mulU rfl rfl rfl (by omega) rfl ?_) | refine TL.nil ?_ | refine TL.nilCheck rfl rfl ?_)); exact one_end rfl yG rfl))))); (rintro _ _ _ hgr _ _; (repeat (refine need_cons rfl rfl ?_; intro vq hvq; try (obtain rfl := hvq))); (refine need_nil ?_))
 repeat (first | refine TL.nil ?_ | refine thenQ_normal ?_ | refine T.seq ?_)
 refine T.weaken (e' := [(0, _), (1, _), (4, _), (5, _), (6, _), (7, _), (8, _)]) ?_ ⟨rfl, rfl, rfl, rfl, rfl, rfl, rfl, trivial⟩
 have p00 := mul_lt (show a0 < 18014398509481984 by omega) hb0
 have p01 := mul_lt (show 19 * a1 < 342273571680157696 by omega) hb4
 have p02 := mul_lt (show 19 * a2 < 342273571680157696 by omega) hb3
 have p03 := mul_lt (show 19 * a3 < 342273571680157696 by omega) hb2
 have p04 := mul_lt (show 19 * a4 < 342273571680157696 by omega) hb1
 apply T.any 35 [is (wide 0), is _, is _, is _, is _, is _, is _, is _, is _, is _, is _, is _, is _, is _, is _, is _, is _, is _, is _, is _, is _, is _, is _, is _, is _, is _, is _, is _, is _, is _, is _, is _, is _, is _, newB 96 [W1 0, W1 0]]; (· kernel_rfl); (· ((repeat' (first | exact allDo_end | refine allDo_cons ?_ ?_)); (iterate 34 (· ((refine does_mk0 rfl rfl rfl ?_); ( intro wq _ _ hgq; (repeat (refine need_cons rfl rfl ?_; intro vq hvq; try (obtain rfl := hvq))); (refine need_nil ?_)); (repeat (first | (refine TL.isMove ?_; refine TL.pure rfl rfl ?_) | refine TL.load1 rfl yM rfl ?_ | (refine TL.isIndex ?_; refine TL.indexArr rfl rfl (by omega) rfl rfl ?_) | refine TL.nil ?_ | refine TL.build rfl rfl rfl ?_ | refine TL.nilCheck rfl rfl ?_ | (refine TL.call rfl (plus_c _ _ _ (by omega) (by omega) (by omega) _) rfl ?_; rintro _ _ ⟨rfl, hgc⟩))); exact one_end rfl yG rfl))); ((refine does_mk0 rfl rfl rfl ?_); ( intro wq _ _ hgq; (repeat (refine need_cons rfl rfl ?_; intro vq hvq; try (obtain rfl := hvq))); (refine need_nil ?_)); (repeat (first | refine TL.nil ?_ | (refine TL.isAlloc ?_; (refine TL.alloc rfl rfl ?_; intro bk w' hg hbk hsz hsz')))); exact one_end rfl yG ⟨_, rfl, by omega, by omega, by assumption⟩))); (rintro _ _ _ hgr hspan _; (repeat (refine need_cons rfl rfl ?_; intro vq hvq; try (obtain rfl := hvq))); (refine need_nil ?_); obtain ⟨bn, rfl, hn1, hn2, hnb⟩ := hvq; have hsp := hspan 34 (by omega); replace hn1 := Nat.le_trans hsp.1 hn1; replace hn2 := Nat.lt_of_lt_of_le hn2 hsp.2.2; clear hspan hsp)
 repeat (first | refine TL.nil ?_ | refine thenQ_normal ?_ | refine T.seq ?_ | (refine TL.isStore ?_; (refine TL.storeWh rfl rfl yB (by exact rfl) (by exact rfl) (by exact rfl) ?_; intro w' hu hbk hsz)))
 have hS0 : 0 + a0 * b0 + 19 * a1 * b4 + 19 * a2 * b3 + 19 * a3 * b2 + 19 * a4 * b1 < 24987928631698857962303013584371712 := by omega
 generalize hs0 : 0 + a0 * b0 + 19 * a1 * b4 + 19 * a2 * b3 + 19 * a3 * b2 + 19 * a4 * b1 = S0 at *
 replace hs0 : Kept (0 + a0 * b0 + 19 * a1 * b4 + 19 * a2 * b3 + 19 * a3 * b2 + 19 * a4 * b1 = S0) := hs0
 refine T.weaken (e' := [(0, _), (1, _), (4, _), (5, _), (6, _), (7, _), (8, _), (9, _)]) ?_ ⟨rfl, rfl, rfl, rfl, rfl, rfl, rfl, rfl, trivial⟩
 obtain ⟨bn0, hbnx⟩ : ∃ b, b = bn := ⟨_, rfl⟩
 subst hbnx
 have hR1 : Blk w' bk 63 [W1 0, W1 0, W1 0, W1 0, W1 0] := by exact yB
 have hA1 : Blk w' ba 63 [W1 a0, W1 a1, W1 a2, W1 a3, W1 a4] := by exact yB
 have hB1 : Blk w' bb 63 [W1 b0, W1 b1, W1 b2, W1 b3, W1 b4] := by exact yB
 have hK0_1 := hbk
 have hAl := (show ba < w'.heap.size from hA1.lt)
 have hRL := (show bk < w'.heap.size from hR1.lt)
 have hBl := (show bb < w'.heap.size from hB1.lt)
 have hL0 := hK0_1.lt
 have hG1 : Grow w w' := by exact yG
 clear hgr hnb hn1 hn2 hu hbk hsz p00 p01 p02 p03 p04 hA hB hA0 hB0 hg hsz'
 repeat (rename_i z; clear z)
 clear hgr hsz hbk
 repeat (rename_i z; clear z)
 have p10 := mul_lt (show a0 < 18014398509481984 by omega) hb1
 have p11 := mul_lt (show a1 < 18014398509481984 by omega) hb0
 have p12 := mul_lt (show 19 * a2 < 342273571680157696 by omega) hb4
 have p13 := mul_lt (show 19 * a3 < 342273571680157696 by omega) hb3
 have p14 := mul_lt (show 19 * a4 < 342273571680157696 by omega) hb2
 apply T.any 38 [is (wide 0), is _, is _, is _, is _, is _, is _, is _, is _, is _, is _, is _, is _, is _, is _, is _, is _, is _, is _, is _, is _, is _, is _, is _, is _, is _, is _, is _, is _, is _, is _, is _, is _, is _, is _, is _, is _, newB 96 [W1 0, W1 0]]; (· kernel_rfl); (· ((repeat' (first | exact allDo_end | refine allDo_cons ?_ ?_)); (iterate 37 (· ((refine does_mk0 rfl rfl rfl ?_); ( intro wq _ _ hgq; (repeat (refine need_cons rfl rfl ?_; intro vq hvq; try (obtain rfl := hvq))); (refine need_nil ?_)); (repeat (first | (refine TL.isMove ?_; refine TL.pure rfl rfl ?_) | refine TL.load1 rfl yM rfl ?_ | (refine TL.isIndex ?_; refine TL.indexArr rfl rfl (by omega) rfl rfl ?_) | refine TL.nil ?_ | refine TL.build rfl rfl rfl ?_ | refine TL.nilCheck rfl rfl ?_ | (refine TL.call rfl (plus_c _ _ _ (by omega) (by omega) (by omega) _) rfl ?_; rintro _ _ ⟨rfl, hgc⟩))); exact one_end rfl yG rfl))); ((refine does_mk0 rfl rfl rfl ?_); ( intro wq _ _ hgq; (repeat (refine need_cons rfl rfl ?_; intro vq hvq; try (obtain rfl := hvq))); (refine need_nil ?_)); (repeat (first | refine TL.nil ?_ | (refine TL.isAlloc ?_; (refine TL.alloc rfl rfl ?_; intro bk w' hg hbk hsz hsz')))); exact one_end rfl yG ⟨_, rfl, by omega, by omega, by assumption⟩))); (rintro _ _ _ hgr hspan _; (repeat (refine need_cons rfl rfl ?_; intro vq hvq; try (obtain rfl := hvq))); (refine need_nil ?_); obtain ⟨bn, rfl, hn1, hn2, hnb⟩ := hvq; have hsp := hspan 37 (by omega); replace hn1 := Nat.le_trans hsp.1 hn1; replace hn2 := Nat.lt_of_lt_of_le hn2 hsp.2.2; clear hspan hsp)
 repeat (first | refine TL.nil ?_ | refine thenQ_normal ?_ | refine T.seq ?_ | (refine TL.isStore ?_; (refine TL.storeWh rfl rfl yB (by exact rfl) (by exact rfl) (by exact rfl) ?_; intro w' hu hbk hsz)))
 have hS1 : 0 + a0 * b1 + a1 * b0 + 19 * a2 * b4 + 19 * a3 * b3 + 19 * a4 * b2 < 19146594665847176880206205213999104 := by omega
 generalize hs1 : 0 + a0 * b1 + a1 * b0 + 19 * a2 * b4 + 19 * a3 * b3 + 19 * a4 * b2 = S1 at *
 replace hs1 : Kept (0 + a0 * b1 + a1 * b0 + 19 * a2 * b4 + 19 * a3 * b3 + 19 * a4 * b2 = S1) := hs1
 refine T.weaken (e' := [(0, _), (1, _), (4, _), (5, _), (6, _), (7, _), (8, _), (9, _), (10, _)]) ?_ ⟨rfl, rfl, rfl, rfl, rfl, rfl, rfl, rfl, rfl, trivial⟩
 obtain ⟨bn1, hbnx⟩ : ∃ b, b = bn := ⟨_, rfl⟩
 subst hbnx
 have hR2 : Blk w' bk 63 [W1 0, W1 0, W1 0, W1 0, W1 0] := by exact yB
 have hA2 : Blk w' ba 63 [W1 a0, W1 a1, W1 a2, W1 a3, W1 a4] := by exact yB
 have hB2 : Blk w' bb 63 [W1 b0, W1 b1, W1 b2, W1 b3, W1 b4] := by exact yB
 have hK0_2 : Blk w' bn0 96 [W1 (S0 / 18446744073709551616), W1 (S0 % 18446744073709551616)] := by exact yB
 have hK1_2 := hbk
 have hAl := (show ba < w'.heap.size from hA2.lt)
 have hRL := (show bk < w'.heap.size from hR2.lt)
 have hBl := (show bb < w'.heap.size from hB2.lt)
 have hL0 := hK0_2.lt
 have hL1 := hK1_2.lt
 have hG2 : Grow w w' := by exact yG
 clear hgr hnb hn1 hn2 hu hbk hsz p10 p11 p12 p13 p14 hA1 hB1 hR1 hG1 hK0_1
 repeat (rename_i z; clear z)
 have p20 := mul_lt (show a0 < 18014398509481984 by omega) hb2
 have p21 := mul_lt (show a1 < 18014398509481984 by omega) hb1
 have p22 := mul_lt (show a2 < 18014398509481984 by omega) hb0
 have p23 := mul_lt (show 19 * a3 < 342273571680157696 by omega) hb4
 have p24 := mul_lt (show 19 * a4 < 342273571680157696 by omega) hb3
 apply T.any 41 [is (wide 0), is _, is _, is _, is _, is _, is _, is _, is _, is _, is _, is _, is _, is _, is _, is _, is _, is _, is _, is _, is _, is _, is _, is _, is _, is _, is _, is _, is _, is _, is _, is _, is _, is _, is _, is _, is _, is _, is _, is _, newB 96 [W1 0, W1 0]]; (· kernel_rfl); (· ((repeat' (first | exact allDo_end | refine allDo_cons ?_ ?_)); (iterate 40 (· ((refine does_mk0 rfl rfl rfl ?_); ( intro wq _ _ hgq; (repeat (refine need_cons rfl rfl ?_; intro vq hvq; try (obtain rfl := hvq))); (refine need_nil ?_)); (repeat (first | (refine TL.isMove ?_; refine TL.pure rfl rfl ?_) | refine TL.load1 rfl yM rfl ?_ | (refine TL.isIndex ?_; refine TL.indexArr rfl rfl (by omega) rfl rfl ?_) | refine TL.nil ?_ | refine TL.build rfl rfl rfl ?_ | refine TL.nilCheck rfl rfl ?_ | (refine TL.call rfl (plus_c _ _ _ (by omega) (by omega) (by omega) _) rfl ?_; rintro _ _ ⟨rfl, hgc⟩))); exact one_end rfl yG rfl))); ((refine does_mk0 rfl rfl rfl ?_); ( intro wq _ _ hgq; (repeat (refine need_cons rfl rfl ?_; intro vq hvq; try (obtain rfl := hvq))); (refine need_nil ?_)); (repeat (first | refine TL.nil ?_ | (refine TL.isAlloc ?_; (refine TL.alloc rfl rfl ?_; intro bk w' hg hbk hsz hsz')))); exact one_end rfl yG ⟨_, rfl, by omega, by omega, by assumption⟩))); (rintro _ _ _ hgr hspan _; (repeat (refine need_cons rfl rfl ?_; intro vq hvq; try (obtain rfl := hvq))); (refine need_nil ?_); obtain ⟨bn, rfl, hn1, hn2, hnb⟩ := hvq; have hsp := hspan 40 (by omega); replace hn1 := Nat.le_trans hsp.1 hn1; replace hn2 := Nat.lt_of_lt_of_le hn2 hsp.2.2; clear hspan hsp)
 repeat (first | refine TL.nil ?_ | refine thenQ_normal ?_ | refine T.seq ?_ | (refine TL.isStore ?_; (refine TL.storeWh rfl rfl yB (by exact rfl) (by exact rfl) (by exact rfl) ?_; intro w' hu hbk hsz)))
 have hS2 : 0 + a0 * b2 + a1 * b1 + a2 * b0 + 19 * a3 * b4 + 19 * a4 * b3 < 13305260699995495798109396843626496 := by omega
 generalize hs2 : 0 + a0 * b2 + a1 * b1 + a2 * b0 + 19 * a3 * b4 + 19 * a4 * b3 = S2 at *
 replace hs2 : Kept (0 + a0 * b2 + a1 * b1 + a2 * b0 + 19 * a3 * b4 + 19 * a4 * b3 = S2) := hs2
 refine T.weaken (e' := [(0, _), (1, _), (4, _), (5, _), (6, _), (7, _), (8, _), (9, _), (10, _), (11, _)]) ?_ ⟨rfl, rfl, rfl, rfl, rfl, rfl, rfl, rfl, rfl, rfl, trivial⟩
 obtain ⟨bn2, hbnx⟩ : ∃ b, b = bn := ⟨_, rfl⟩
 subst hbnx
 have hR3 : Blk w' bk 63 [W1 0, W1 0, W1 0, W1 0, W1 0] := by exact yB
 have hA3 : Blk w' ba 63 [W1 a0, W1 a1, W1 a2, W1 a3, W1 a4] := by exact yB
 have hB3 : Blk w' bb 63 [W1 b0, W1 b1, W1 b2, W1 b3, W1 b4] := by exact yB
 have hK0_3 : Blk w' bn0 96 [W1 (S0 / 18446744073709551616), W1 (S0 % 18446744073709551616)] := by exact yB
 have hK1_3 : Blk w' bn1 96 [W1 (S1 / 18446744073709551616), W1 (S1 % 18446744073709551616)] := by exact yB
 have hK2_3 := hbk
 have hAl := (show ba < w'.heap.size from hA3.lt)
 have hRL := (show bk < w'.heap.size from hR3.lt)
 have hBl := (show bb < w'.heap.size from hB3.lt)
 have hL0 := hK0_3.lt
 have hL1 := hK1_3.lt
 have hL2 := hK2_3.lt
 have hG3 : Grow w w' := by exact yG
 clear hgr hnb hn1 hn2 hu hbk hsz p20 p21 p22 p23 p24 hA2 hB2 hR2 hG2 hK0_2 hK1_2
 repeat (rename_i z; clear z)
 have p30 := mul_lt (show a0 < 18014398509481984 by omega) hb3
 have p31 := mul_lt (show a1 < 18014398509481984 by omega) hb2
 have p32 := mul_lt (show a2 < 18014398509481984 by omega) hb1
 have p33 := mul_lt (show a3 < 18014398509481984 by omega) hb0
 have p34 := mul_lt (show 19 * a4 < 342273571680157696 by omega) hb4
 apply T.any 44 [is (wide 0), is _, is _, is _, is _, is _, is _, is _, is _, is _, is _, is _, is _, is _, is _, is _, is _, is _, is _, is _, is _, is _, is _, is _, is _, is _, is _, is _, is _, is _, is _, is _, is _, is _, is _, is _, is _, is _, is _, is _, is _, is _, is _, newB 96 [W1 0, W1 0]]; (· kernel_rfl); (· ((repeat' (first | exact allDo_end | refine allDo_cons ?_ ?_)); (iterate 43 (· ((refine does_mk0 rfl rfl rfl ?_); ( intro wq _ _ hgq; (repeat (refine need_cons rfl rfl ?_; intro vq hvq; try (obtain rfl := hvq))); (refine need_nil ?_)); (repeat (first | (refine TL.isMove ?_; refine TL.pure rfl rfl ?_) | refine TL.load1 rfl yM rfl ?_ | (refine TL.isIndex ?_; refine TL.indexArr rfl rfl (by omega) rfl rfl ?_) | refine TL.nil ?_ | refine TL.build rfl rfl rfl ?_ | refine TL.nilCheck rfl rfl ?_ | (refine TL.call rfl (plus_c _ _ _ (by omega) (by omega) (by omega) _) rfl ?_; rintro _ _ ⟨rfl, hgc⟩))); exact one_end rfl yG rfl))); ((refine does_mk0 rfl rfl rfl ?_); ( intro wq _ _ hgq; (repeat (refine need_cons rfl rfl ?_; intro vq hvq; try (obtain rfl := hvq))); (refine need_nil ?_)); (repeat (first | refine TL.nil ?_ | (refine TL.isAlloc ?_; (refine TL.alloc rfl rfl ?_; intro bk w' hg hbk hsz hsz')))); exact one_end rfl yG ⟨_, rfl, by omega, by omega, by assumption⟩))); (rintro _ _ _ hgr hspan _; (repeat (refine need_cons rfl rfl ?_; intro vq hvq; try (obtain rfl := hvq))); (refine need_nil ?_); obtain ⟨bn, rfl, hn1, hn2, hnb⟩ := hvq; have hsp := hspan 43 (by omega); replace hn1 := Nat.le_trans hsp.1 hn1; replace hn2 := Nat.lt_of_lt_of_le hn2 hsp.2.2; clear hspan hsp)
 repeat (first | refine TL.nil ?_ | refine thenQ_normal ?_ | refine T.seq ?_ | (refine TL.isStore ?_; (refine TL.storeWh rfl rfl yB (by exact rfl) (by exact rfl) (by exact rfl) ?_; intro w' hu hbk hsz)))
 have hS3 : 0 + a0 * b3 + a1 * b2 + a2 * b1 + a3 * b0 + 19 * a4 * b4 < 7463926734143814716012588473253888 := by omega
 generalize hs3 : 0 + a0 * b3 + a1 * b2 + a2 * b1 + a3 * b0 + 19 * a4 * b4 = S3 at *
 replace hs3 : Kept (0 + a0 * b3 + a1 * b2 + a2 * b1 + a3 * b0 + 19 * a4 * b4 = S3) := hs3
 refine T.weaken (e' := [(0, _), (1, _), (4, _), (5, _), (6, _), (7, _), (8, _), (9, _), (10, _), (11, _), (12, _)]) ?_ ⟨rfl, rfl, rfl, rfl, rfl, rfl, rfl, rfl, rfl, rfl, rfl, trivial⟩
 obtain ⟨bn3, hbnx⟩ : ∃ b, b = bn := ⟨_, rfl⟩
 subst hbnx
 have hR4 : Blk w' bk 63 [W1 0, W1 0, W1 0, W1 0, W1 0] := by exact yB
 have hA4 : Blk w' ba 63 [W1 a0, W1 a1, W1 a2, W1 a3, W1 a4] := by exact yB
 have hB4 : Blk w' bb 63 [W1 b0, W1 b1, W1 b2, W1 b3, W1 b4] := by exact yB
 have hK0_4 : Blk w' bn0 96 [W1 (S0 / 18446744073709551616), W1 (S0 % 18446744073709551616)] := by exact yB
 have hK1_4 : Blk w' bn1 96 [W1 (S1 / 18446744073709551616), W1 (S1 % 18446744073709551616)] := by exact yB
 have hK2_4 : Blk w' bn2 96 [W1 (S2 / 18446744073709551616), W1 (S2 % 18446744073709551616)] := by exact yB
 have hK3_4 := hbk
 have hAl := (show ba < w'.heap.size from hA4.lt)
 have hRL := (show bk < w'.heap.size from hR4.lt)
 have hBl := (show bb < w'.heap.size from hB4.lt)
 have hL0 := hK0_4.lt
 have hL1 := hK1_4.lt
 have hL2 := hK2_4.lt
 have hL3 := hK3_4.lt
 have hG4 : Grow w w' := by exact yG
 clear hgr hnb hn1 hn2 hu hbk hsz p30 p31 p32 p33 p34 hA3 hB3 hR3 hG3 hK0_3 hK1_3 hK2_3
 repeat (rename_i z; clear z)
 have p40 := mul_lt (show a0 < 18014398509481984 by omega) hb4
 have p41 := mul_lt (show a1 < 18014398509481984 by omega) hb3
 have p42 := mul_lt (show a2 < 18014398509481984 by omega) hb2
 have p43 := mul_lt (show a3 < 18014398509481984 by omega) hb1
 have p44 := mul_lt (show a4 < 18014398509481984 by omega) hb0
 apply T.any 47 [is (wide 0), is _, is _, is _, is _, is _, is _, is _, is _, is _, is _, is _, is _, is _, is _, is _, is _, is _, is _, is _, is _, is _, is _, is _, is _, is _, is _, is _, is _, is _, is _, is _, is _, is _, is _, is _, is _, is _, is _, is _, is _, is _, is _, is _, is _, is _, newB 96 [W1 0, W1 0]]; (· kernel_rfl); (· ((repeat' (first | exact allDo_end | refine allDo_cons ?_ ?_)); (iterate 46 (· ((refine does_mk0 rfl rfl rfl ?_); ( intro wq _ _ hgq; (repeat (refine need_cons rfl rfl ?_; intro vq hvq; try (obtain rfl := hvq))); (refine need_nil ?_)); (repeat (first | (refine TL.isMove ?_; refine TL.pure rfl rfl ?_) | refine TL.load1 rfl yM rfl ?_ | (refine TL.isIndex ?_; refine TL.indexArr rfl rfl (by omega) rfl rfl ?_) | refine TL.nil ?_ | refine TL.build rfl rfl rfl ?_ | refine TL.nilCheck rfl rfl ?_ | (refine TL.call rfl (plus_c _ _ _ (by omega) (by omega) (by omega) _) rfl ?_; rintro _ _ ⟨rfl, hgc⟩))); exact one_end rfl yG rfl))); ((refine does_mk0 rfl rfl rfl ?_); ( intro wq _ _ hgq; (repeat (refine need_cons rfl rfl ?_; intro vq hvq; try (obtain rfl := hvq))); (refine need_nil ?_)); (repeat (first | refine TL.nil ?_ | (refine TL.isAlloc ?_; (refine TL.alloc rfl rfl ?_; intro bk w' hg hbk hsz hsz')))); exact one_end rfl yG ⟨_, rfl, by omega, by omega, by assumption⟩))); (rintro _ _ _ hgr hspan _; (repeat (refine need_cons rfl rfl ?_; intro vq hvq; try (obtain rfl := hvq))); (refine need_nil ?_); obtain ⟨bn, rfl, hn1, hn2, hnb⟩ := hvq; have hsp := hspan 46 (by omega); replace hn1 := Nat.le_trans hsp.1 hn1; replace hn2 := Nat.lt_of_lt_of_le hn2 hsp.2.2; clear hspan hsp)
 repeat (first | refine TL.nil ?_ | refine thenQ_normal ?_ | refine T.seq ?_ | (refine TL.isStore ?_; (refine TL.storeWh rfl rfl yB (by exact rfl) (by exact rfl) (by exact rfl) ?_; intro w' hu hbk hsz)))
 have hS4 : 0 + a0 * b4 + a1 * b3 + a2 * b2 + a3 * b1 + a4 * b0 < 1622592768292133633915780102881280 := by omega
 generalize hs4 : 0 + a0 * b4 + a1 * b3 + a2 * b2 + a3 * b1 + a4 * b0 = S4 at *
 replace hs4 : Kept (0 + a0 * b4 + a1 * b3 + a2 * b2 + a3 * b1 + a4 * b0 = S4) := hs4
 refine T.weaken (e' := [(0, _), (1, _), (4, _), (5, _), (6, _), (7, _), (8, _), (9, _), (10, _), (11, _), (12, _), (13, _)]) ?_ ⟨rfl, rfl, rfl, rfl, rfl, rfl, rfl, rfl, rfl, rfl, rfl, rfl, trivial⟩
 obtain ⟨bn4, hbnx⟩ : ∃ b, b = bn := ⟨_, rfl⟩
 subst hbnx
 have hR5 : Blk w' bk 63 [W1 0, W1 0, W1 0, W1 0, W1 0] := by exact yB
 have hA5 : Blk w' ba 63 [W1 a0, W1 a1, W1 a2, W1 a3, W1 a4] := by exact yB
 have hB5 : Blk w' bb 63 [W1 b0, W1 b1, W1 b2, W1 b3, W1 b4] := by exact yB
 have hK0_5 : Blk w' bn0 96 [W1 (S0 / 18446744073709551616), W1 (S0 % 18446744073709551616)] := by exact yB
 have hK1_5 : Blk w' bn1 96 [W1 (S1 / 18446744073709551616), W1 (S1 % 18446744073709551616)] := by exact yB
 have hK2_5 : Blk w' bn2 96 [W1 (S2 / 18446744073709551616), W1 (S2 % 18446744073709551616)] := by exact yB
 have hK3_5 : Blk w' bn3 96 [W1 (S3 / 18446744073709551616), W1 (S3 % 18446744073709551616)] := by exact yB
 have hK4_5 := hbk
 have hAl := (show ba < w'.heap.size from hA5.lt)
 have hRL := (show bk < w'.heap.size from hR5.lt)
 have hBl := (show bb < w'.heap.size from hB5.lt)
 have hL0 := hK0_5.lt
 have hL1 := hK1_5.lt
 have hL2 := hK2_5.lt
 have hL3 := hK3_5.lt
 have hL4 := hK4_5.lt
 have hG5 : Grow w w' := by exact yG
 clear hgr hnb hn1 hn2 hu hbk hsz p40 p41 p42 p43 p44 hA4 hB4 hR4 hG4 hK0_4 hK1_4 hK2_4 hK3_4
 repeat (rename_i z; clear z)
 apply T.any 33 [is _, is _, is _, is _, is _, is _, is _, is _, is _, is _, is _, is _, is _, is _, is _, is _, is _, is _, is _, is _, is _, is _, is _, is _, is _, is _, is _, is _, is _, is _, is _, is _, is _]; (· kernel_rfl); (· ((repeat' (first | exact allDo_end | refine allDo_cons ?_ ?_)); (iterate 33 (· ((refine does_mk0 rfl rfl rfl ?_); ( intro wq _ _ hgq; (repeat (refine need_cons rfl rfl ?_; intro vq hvq; try (obtain rfl := hvq))); (refine need_nil ?_)); (repeat (first | (refine TL.isLoad ?_; first | refine TL.load1 rfl yM rfl ?_ | refine TL.loadW rfl yB (by exact rfl) rfl ?_) | refine TL.fieldAddr rfl rfl ?_ | (refine TL.isAdd ?_; refine TL.addU rfl rfl rfl (by omega) rfl ?_) | (refine TL.isMul ?_; refine TL.mulU rfl rfl rfl (by omega) rfl ?_) | (refine TL.isAnd ?_; refine TL.andU rfl rfl rfl rfl (by omega) (by omega) rfl ?_) | refine TL.nil ?_ | refine TL.buildArr rfl rfl rfl ?_ | (refine TL.call rfl (upper_c _ (by omega) _) rfl ?_; rintro _ _ ⟨rfl, hgc⟩) | (refine TL.call rfl (carried_c _ _ _ _ _ (by omega) (by omega) (by omega) (by omega) (by omega) _) rfl ?_; rintro _ _ ⟨rfl, hgc⟩))); exact one_end rfl yG rfl))))); (rintro _ _ _ hgr _ _; (repeat (refine need_cons rfl rfl ?_; intro vq hvq; try (obtain rfl := hvq))); (refine need_nil ?_))
 repeat (first | refine TL.nil ?_ | refine thenQ_normal ?_ | (refine TL.isStore ?_; (refine TL.storeWh rfl rfl yB (by exact rfl) (by exact rfl) (by exact rfl) ?_; intro w' hu hbk hsz)) | refine T.ret ?_)
 obtain ⟨r0, r1, r2, r3, r4, hv, hb⟩ := product_law a0 a1 a2 a3 a4 b0 b1 b2 b3 b4 S0 S1 S2 S3 S4 hs0 hs1 hs2 hs3 hs4 hS0 hS1 hS2 hS3 hS4
 exact retC rfl (load_whole (by assumption) rfl) ⟨_, rfl, r0, r1, r2, r3, r4, hv, hb, yG⟩
end Go.Proofs.Ytmpjigghgedjbaa
namespace Go.Proofs.Ytmpjigghgedjbaa
open Go Go.RowKit Go.V
theorem l0_lt (N : Nat) : l0 N < 2251799813685248 := Nat.mod_lt _ (by decide)
theorem l1_lt (N : Nat) : l1 N < 2251799813685248 := Nat.mod_lt _ (by decide)
theorem l2_lt (N : Nat) : l2 N < 2251799813685248 := Nat.mod_lt _ (by decide)
theorem l3_lt (N : Nat) : l3 N < 2251799813685248 := Nat.mod_lt _ (by decide)
theorem l4_lt {N : Nat} (h : N < 115792089237316195423570985008687907853269984665640564039457584007913129639936) : l4 N < 4503599627370496 := by unfold l4; omega
theorem V5_l (N : Nat) : V5 (l0 N) (l1 N) (l2 N) (l3 N) (l4 N) = N := by unfold V5 l0 l1 l2 l3 l4; omega
theorem V5_add (a b c d e a' b' c' d' e' : Nat) : V5 (a + a') (b + b') (c + c') (d + d') (e + e') = V5 a b c d e + V5 a' b' c' d' e' := by unfold V5; omega
theorem V5_sub (a b c d e a' b' c' d' e' : Nat) (h0 : a' ≤ 9007199254740916) (h1 : b' ≤ 9007199254740988) (h2 : c' ≤ 9007199254740988) (h3 : d' ≤ 9007199254740988) (h4 : e' ≤ 9007199254740988) :
  V5 (a + (9007199254740916 - a')) (b + (9007199254740988 - b')) (c + (9007199254740988 - c')) (d + (9007199254740988 - d')) (e + (9007199254740988 - e')) + V5 a' b' c' d' e' = V5 a b c d e + 4 * p25519 := by
 unfold V5 p25519; omega
theorem sub_mod {S N M : Nat} (hM : M < 115792089237316195423570985008687907853269984665640564039457584007913129639936) (h : S + M = N + 4 * p25519) : S % p25519 = (N + (p25519 - M % p25519)) % p25519 := by
 have h1 : M % p25519 < p25519 := Nat.mod_lt _ (by decide)
 have h2 := Nat.div_add_mod M p25519
 have h3 : M / p25519 ≤ 2 := by
  show M / 57896044618658097711785492504343953926634992332820282019728792003956564819949 ≤ 2
  omega
 generalize M / p25519 = q at *
 have h4 : S = (N + (p25519 - M % p25519)) + p25519 * (3 - q) := by
  obtain rfl | rfl | rfl : q = 0 ∨ q = 1 ∨ q = 2 := by omega
  all_goals omega
 rw [h4, Nat.add_mul_mod_self_left]
theorem rest_c (N : Nat) (hN : N < 115792089237316195423570985008687907853269984665640564039457584007913129639936) (w : World) :
  Calls Try.prog 17 #[num N] w (Ret fun v w' => v = num (N % p25519) ∧ Grow w w') := by
 refine V.calls (args := [_]) Try.func17 rfl Try.ntmps17 rfl rfl ?_
 have h0 := l0_lt N
 have h1 := l1_lt N
 have h2 := l2_lt N
 have h3 := l3_lt N
 have h4 := l4_lt hN
 repeat (first | (refine TL.isLoad ?_; refine TL.loadW rfl yB (by exact rfl) rfl ?_) | refine TL.nil ?_ | refine thenQ_normal ?_ | refine T.seq ?_ | refine T.region ?_ | (refine TL.isBox ?_; (refine TL.box rfl rfl rfl ?_; intro bk w' hg hbk hsz hsz')) | (refine TL.isAlloc ?_; (refine TL.alloc rfl rfl ?_; intro bk w' hg hbk hsz hsz')))
 refine TL.call rfl (load_c N hN _) rfl ?_
 rintro _ w2 ⟨rfl, hg2⟩
 repeat (refine T.seq ?_)
 refine TL.call rfl (store_c _ _ _ _ _ (by omega) (by omega) (by omega) (by omega) (by omega) _) rfl ?_
 rintro _ w3 ⟨rfl, hg3⟩
 repeat (first | refine TL.nil ?_ | refine thenQ_normal ?_ | (refine TL.isStore ?_; (refine TL.storeWh rfl rfl yB (by exact rfl) (by exact rfl) (by exact rfl) ?_; intro w' hu hbk hsz)) | refine T.ret ?_)
 exact retC rfl (load_whole (by assumption) rfl) ⟨_, rfl, by show num _ = _; rw [V5_l], yG⟩
theorem of_c (n : Nat) (hn : n < 18446744073709551616) (w : World) :
  Calls Try.prog 18 #[W1 n] w (Ret fun v w' => v = num n ∧ Grow w w') := by
 refine V.calls (args := [_]) Try.func18 rfl Try.ntmps18 rfl rfl ?_
 repeat (first | (refine TL.isMove ?_; refine TL.pure rfl rfl ?_) | refine TL.nil ?_ | refine thenQ_normal ?_ | refine T.seq ?_ | refine T.region ?_ | (refine TL.isAlloc ?_; (refine TL.alloc rfl rfl ?_; intro bk w' hg hbk hsz hsz')) | (refine TL.isSlice ?_; refine TL.sliceArr rfl (bnd_none _) (bnd_lit rfl) (by omega) (by omega) (by omega) rfl rfl ?_))
 rename_i b1 w1 g1 k1 s1 t1
 have k2 : Blk w' bk 23 zeros := hbk
 have hlt := k2.lt
 clear hbk
 repeat (refine T.seq ?_)
 refine TL.call rfl (put_c _ _ _ _ _ _ _ yB (by exact Nat.le_of_ble_eq_true rfl)) rfl ?_
 rintro _ v0 ⟨rfl, hu0, hb0⟩
 have hc0 : Blk v0 bk 23 (numL n) := by
  have e : numL n = b8 n ++ zs 24 := by
   have e0 : q0 n = n := Nat.mod_eq_of_lt hn
   have e1 : q1 n = 0 := by unfold q1; omega
   have e2 : q2 n = 0 := by unfold q2; omega
   have e3 : q3 n = 0 := by unfold q3; omega
   unfold numL
   rw [e0, e1, e2, e3]
   rfl
  rw [e]
  exact hb0
 clear hb0
 repeat (first | (refine TL.isLoad ?_; refine TL.loadW rfl yB (by exact rfl) rfl ?_) | refine TL.nil ?_ | refine thenQ_normal ?_ | refine T.seq ?_ | refine T.region ?_ | (refine TL.isStore ?_; (refine TL.storeWh rfl rfl yB (by exact rfl) (by exact rfl) (by exact rfl) ?_; intro w' hu hbk hsz)) | refine T.ret ?_)
 exact retC rfl (load_whole (by assumption) rfl) ⟨_, rfl, rfl, yG⟩
theorem mul_c (N M : Nat) (hN : N < 115792089237316195423570985008687907853269984665640564039457584007913129639936) (hM : M < 115792089237316195423570985008687907853269984665640564039457584007913129639936) (w : World) :
  Calls Try.prog 21 #[num N, num M] w (Ret fun v w' => v = num (N * M % p25519) ∧ Grow w w') := by
 refine V.calls (args := [_, _]) Try.func21 rfl Try.ntmps21 rfl rfl ?_
 have h0 := l0_lt N
 have h1 := l1_lt N
 have h2 := l2_lt N
 have h3 := l3_lt N
 have h4 := l4_lt hN
 have k0 := l0_lt M
 have k1 := l1_lt M
 have k2 := l2_lt M
 have k3 := l3_lt M
 have k4 := l4_lt hM
 repeat (first | refine TL.nil ?_ | refine thenQ_normal ?_ | refine T.seq ?_ | refine T.region ?_ | (refine TL.isBox ?_; (refine TL.box rfl rfl rfl ?_; intro bk w' hg hbk hsz hsz')) | (refine TL.isAlloc ?_; (refine TL.alloc rfl rfl ?_; intro bk w' hg hbk hsz hsz')))
 (apply T.any 6 [is _, is _, is _, is _, newB 63 [W1 0, W1 0, W1 0, W1 0, W1 0], newB 63 [W1 0, W1 0, W1 0, W1 0, W1 0]]; (· kernel_rfl); (· ((repeat' (first | exact allDo_end | refine allDo_cons ?_ ?_)); (iterate 4 (· ((refine does_mk0 rfl rfl rfl ?_); ( intro wq _ _ hgq; (repeat (refine need_cons rfl rfl ?_; intro vq hvq; try (obtain rfl := hvq))); (refine need_nil ?_)); (repeat (first | (refine TL.isLoad ?_; refine TL.loadW rfl yB (by exact rfl) rfl ?_) | refine TL.nil ?_ | (refine TL.call rfl (load_c _ (by assumption) _) rfl ?_; rintro _ _ ⟨rfl, hgc⟩))); exact one_end rfl yG rfl))); (iterate 2 (· (refine does_mk0 rfl rfl rfl ?_); ( intro wq _ _ hgq; (repeat (refine need_cons rfl rfl ?_; intro vq hvq; try (obtain rfl := hvq))); (refine need_nil ?_)); (repeat (first | refine TL.nil ?_ | (refine TL.isAlloc ?_; (refine TL.alloc rfl rfl ?_; intro bk w' hg hbk hsz hsz')))); exact one_end rfl yG ⟨_, rfl, by omega, by omega, by assumption⟩)))); (rintro _ _ _ hgr hspan hdj; (repeat (refine need_cons rfl rfl ?_; intro vq hvq; try (obtain rfl := hvq))); (refine need_nil ?_)); obtain ⟨bn2, rfl, hl2, hh2, hnb2⟩ := hvq; obtain ⟨bn1, rfl, hl1, hh1, hnb1⟩ := hvq; (try simp only [Nat.reduceAdd] at hl1 hh1 hl2 hh2); have hd21 : bn2 ≠ bn1 := (by have hz := hdj 5 4 (by omega) (by omega) (by omega); omega); have hsp := hspan 4 (by omega); replace hl1 := Nat.le_trans hsp.1 hl1; replace hh1 := Nat.lt_of_lt_of_le hh1 hsp.2.2; clear hsp; have hsp := hspan 5 (by omega); replace hl2 := Nat.le_trans hsp.1 hl2; replace hh2 := Nat.lt_of_lt_of_le hh2 hsp.2.2; clear hsp; clear hspan hdj)
 repeat (first | refine TL.nil ?_ | refine thenQ_normal ?_ | refine T.seq ?_ | refine T.region ?_ | (refine TL.isStore ?_; (refine TL.storeWh rfl rfl yB (by exact rfl) (by exact rfl) (by exact rfl) ?_; intro w' hu hbk hsz)))
 have c1 : Blk w' bn2 63 [W1 (l0 M), W1 (l1 M), W1 (l2 M), W1 (l3 M), W1 (l4 M)] := hbk
 have c0 : Blk w' bn1 63 [W1 (l0 N), W1 (l1 N), W1 (l2 N), W1 (l3 N), W1 (l4 N)] := by exact yB
 repeat (refine T.seq ?_)
 refine TL.call rfl (product_c _ _ _ _ _ _ _ _ _ _ _ _ _ c0 c1 (by omega) (by omega) (by omega) (by omega) (by omega) (by omega) (by omega) (by omega) (by omega) (by omega)) rfl ?_
 rintro _ w4 ⟨r0, r1, r2, r3, r4, rfl, ⟨⟨b0, b1, b2, b3, b4⟩, hv⟩, hg4⟩
 rw [V5_l, V5_l] at hv
 repeat (refine T.seq ?_)
 refine TL.call rfl (store_c _ _ _ _ _ (by omega) (by omega) (by omega) (by omega) (by omega) _) rfl ?_
 rintro _ w5 ⟨rfl, hg5⟩
 rw [hv]
 repeat (first | refine TL.nil ?_ | refine thenQ_normal ?_ | (refine TL.isStore ?_; (refine TL.storeWh rfl rfl yB (by exact rfl) (by exact rfl) (by exact rfl) ?_; intro w' hu hbk hsz)) | refine T.ret ?_)
 exact retC rfl (load_whole (by assumption) rfl) ⟨_, rfl, rfl, yG⟩
end Go.Proofs.Ytmpjigghgedjbaa
namespace Go.Proofs.Ytmpjigghgedjbaa
open Go Go.RowKit Go.V
def addw (x0 x1 x2 x3 x4 y0 y1 y2 y3 y4 : Nat) : Nat → List Value
 | 0 => [W1 (x0), W1 (x1), W1 (x2), W1 (x3), W1 (x4)]
 | 1 => [W1 (x0 + y0), W1 (x1), W1 (x2), W1 (x3), W1 (x4)]
 | 2 => [W1 (x0 + y0), W1 (x1 + y1), W1 (x2), W1 (x3), W1 (x4)]
 | 3 => [W1 (x0 + y0), W1 (x1 + y1), W1 (x2 + y2), W1 (x3), W1 (x4)]
 | 4 => [W1 (x0 + y0), W1 (x1 + y1), W1 (x2 + y2), W1 (x3 + y3), W1 (x4)]
 | _ => [W1 (x0 + y0), W1 (x1 + y1), W1 (x2 + y2), W1 (x3 + y3), W1 (x4 + y4)]
def subw (x0 x1 x2 x3 x4 y0 y1 y2 y3 y4 : Nat) : Nat → List Value
 | 0 => [W1 (x0), W1 (x1), W1 (x2), W1 (x3), W1 (x4)]
 | 1 => [W1 (x0 + (9007199254740916 - y0)), W1 (x1), W1 (x2), W1 (x3), W1 (x4)]
 | 2 => [W1 (x0 + (9007199254740916 - y0)), W1 (x1 + (9007199254740988 - y1)), W1 (x2), W1 (x3), W1 (x4)]
 | 3 => [W1 (x0 + (9007199254740916 - y0)), W1 (x1 + (9007199254740988 - y1)), W1 (x2 + (9007199254740988 - y2)), W1 (x3), W1 (x4)]
 | 4 => [W1 (x0 + (9007199254740916 - y0)), W1 (x1 + (9007199254740988 - y1)), W1 (x2 + (9007199254740988 - y2)), W1 (x3 + (9007199254740988 - y3)), W1 (x4)]
 | _ => [W1 (x0 + (9007199254740916 - y0)), W1 (x1 + (9007199254740988 - y1)), W1 (x2 + (9007199254740988 - y2)), W1 (x3 + (9007199254740988 - y3)), W1 (x4 + (9007199254740988 - y4))]
theorem add_c (N M : Nat) (hN : N < 115792089237316195423570985008687907853269984665640564039457584007913129639936) (hM : M < 115792089237316195423570985008687907853269984665640564039457584007913129639936) (w : World) :
  Calls Try.prog 30 #[num N, num M] w (Ret fun v w' => v = num ((N + M) % p25519) ∧ Grow w w') := by
 refine V.calls (args := [_, _]) Try.func30 rfl Try.ntmps30 rfl rfl ?_
 have h0 := l0_lt N
 have h1 := l1_lt N
 have h2 := l2_lt N
 have h3 := l3_lt N
 have h4 := l4_lt hN
 have k0 := l0_lt M
 have k1 := l1_lt M
 have k2 := l2_lt M
 have k3 := l3_lt M
 have k4 := l4_lt hM
 have hx := V5_l N
 have hy := V5_l M
 repeat (first | refine TL.nil ?_ | refine thenQ_normal ?_ | refine T.seq ?_ | refine T.region ?_ | (refine TL.isBox ?_; (refine TL.box rfl rfl rfl ?_; intro bk w' hg hbk hsz hsz')) | (refine TL.isAlloc ?_; (refine TL.alloc rfl rfl ?_; intro bk w' hg hbk hsz hsz')))
 (apply T.any 6 [is _, is _, is _, is _, newB 63 [W1 0, W1 0, W1 0, W1 0, W1 0], newB 63 [W1 0, W1 0, W1 0, W1 0, W1 0]]; (· kernel_rfl); (· ((repeat' (first | exact allDo_end | refine allDo_cons ?_ ?_)); (iterate 4 (· ((refine does_mk0 rfl rfl rfl ?_); ( intro wq _ _ hgq; (repeat (refine need_cons rfl rfl ?_; intro vq hvq; try (obtain rfl := hvq))); (refine need_nil ?_)); (repeat (first | (refine TL.isLoad ?_; refine TL.loadW rfl yB (by exact rfl) rfl ?_) | refine TL.nil ?_ | (refine TL.call rfl (load_c _ (by assumption) _) rfl ?_; rintro _ _ ⟨rfl, hgc⟩))); exact one_end rfl yG rfl))); (iterate 2 (· (refine does_mk0 rfl rfl rfl ?_); ( intro wq _ _ hgq; (repeat (refine need_cons rfl rfl ?_; intro vq hvq; try (obtain rfl := hvq))); (refine need_nil ?_)); (repeat (first | refine TL.nil ?_ | (refine TL.isAlloc ?_; (refine TL.alloc rfl rfl ?_; intro bk w' hg hbk hsz hsz')))); exact one_end rfl yG ⟨_, rfl, by omega, by omega, by assumption⟩)))); (rintro _ _ _ hgr hspan hdj; (repeat (refine need_cons rfl rfl ?_; intro vq hvq; try (obtain rfl := hvq))); (refine need_nil ?_)); obtain ⟨bn2, rfl, hl2, hh2, hnb2⟩ := hvq; obtain ⟨bn1, rfl, hl1, hh1, hnb1⟩ := hvq; (try simp only [Nat.reduceAdd] at hl1 hh1 hl2 hh2); have hd21 : bn2 ≠ bn1 := (by have hz := hdj 5 4 (by omega) (by omega) (by omega); omega); have hsp := hspan 4 (by omega); replace hl1 := Nat.le_trans hsp.1 hl1; replace hh1 := Nat.lt_of_lt_of_le hh1 hsp.2.2; clear hsp; have hsp := hspan 5 (by omega); replace hl2 := Nat.le_trans hsp.1 hl2; replace hh2 := Nat.lt_of_lt_of_le hh2 hsp.2.2; clear hsp; clear hspan hdj)
 generalize l0 N = x0 at *
 generalize l1 N = x1 at *
 generalize l2 N = x2 at *
 generalize l3 N = x3 at *
 generalize l4 N = x4 at *
 generalize l0 M = y0 at *
 generalize l1 M = y1 at *
 generalize l2 M = y2 at *
 generalize l3 M = y3 at *
 generalize l4 M = y4 at *
 repeat (first | (refine TL.isMove ?_; refine TL.pure rfl rfl ?_) | refine TL.nil ?_ | refine thenQ_normal ?_ | refine T.seq ?_ | refine T.region ?_ | refine T.block ?_ | (refine TL.isStore ?_; (refine TL.storeWh rfl rfl yB (by exact rfl) (by exact rfl) (by exact rfl) ?_; intro w' hu hbk hsz)))
 have c1 : Blk w' bn2 63 [W1 y0, W1 y1, W1 y2, W1 y3, W1 y4] := by exact yB
 have c0 : Blk w' bn1 63 (addw x0 x1 x2 x3 x4 y0 y1 y2 y3 y4 0) := by exact yB
 have cr : Blk w' bk 23 zeros := by exact yB
 have hG : Grow w w' := by exact yG
 have hb1 := c0.lt
 have hb2 := c1.lt
 have hb3 := cr.lt
 have hbn1 : bn1 ≠ bk := by omega
 have hbn2 : bn2 ≠ bk := by omega
 refine T.loop (S := Nat) (fun k => [(12, .int .i64 (k : Int)), (6, .pointer (some ⟨bn2, 0, none⟩)), (5, .pointer (some ⟨bn1, 0, none⟩)), (4, .pointer (some ⟨bk, 0, none⟩))]) (fun k v => 0 ≤ k ∧ k ≤ 5 ∧ Blk v bn2 63 [W1 y0, W1 y1, W1 y2, W1 y3, W1 y4] ∧ Blk v bn1 63 (addw x0 x1 x2 x3 x4 y0 y1 y2 y3 y4 k) ∧ Blk v bk 23 zeros ∧ Grow w v) (fun k => 5 - k) 0 ⟨rfl, rfl, rfl, rfl, trivial⟩ ⟨by omega, by omega, by assumption, by assumption, by assumption, by assumption⟩ ?_
 rintro k v ⟨hk1, hk, m1, m0, mr, hGv⟩
 obtain rfl | rfl | rfl | rfl | rfl | rfl : k = 0 ∨ k = 1 ∨ k = 2 ∨ k = 3 ∨ k = 4 ∨ k = 5 := by omega
 ·refine T.weaken (e' := [(12, .int .i64 0), (6, _), (5, _), (4, _)]) ?_ ⟨rfl, rfl, rfl, rfl, trivial⟩
  replace m0 : Blk v bn1 63 [W1 (x0), W1 (x1), W1 (x2), W1 (x3), W1 (x4)] := m0
  have n0 := m0.lt
  have n1 := m1.lt
  have n2 := mr.lt
  repeat (first | (refine TL.isMove ?_; refine TL.pure rfl rfl ?_) | (refine TL.isAsg ?_; refine TL.pure rfl rfl ?_) | refine TL.nil ?_ | refine thenQ_normal ?_ | refine T.seq ?_ | refine T.region ?_ | refine T.block ?_ | (refine TL.isBin ?_; refine TL.pure rfl rfl ?_) | refine T.cond_true rfl ?_ | refine T.skip ?_)
  apply T.any 7 [is _, is _, is _, is _, is _, is _, is _]; (· kernel_rfl); (· ((repeat' (first | exact allDo_end | refine allDo_cons ?_ ?_)); (iterate 7 (· ((refine does_mk0 rfl rfl rfl ?_); ( intro wq _ _ hgq; (repeat (refine need_cons rfl rfl ?_; intro vq hvq; try (obtain rfl := hvq))); (refine need_nil ?_)); (repeat (first | (refine TL.isMove ?_; refine TL.pure rfl rfl ?_) | refine TL.load1 rfl yM rfl ?_ | (refine TL.isIndex ?_; refine TL.indexArr rfl rfl (by omega) rfl rfl ?_) | (refine TL.isAdd ?_; refine TL.addU rfl rfl rfl (by omega) rfl ?_) | refine TL.nil ?_)); exact one_end rfl yG rfl))))); (rintro _ _ _ hgr _ _; (repeat (refine need_cons rfl rfl ?_; intro vq hvq; try (obtain rfl := hvq))); (refine need_nil ?_))
  repeat (first | (refine TL.isMove ?_; refine TL.pure rfl rfl ?_) | (refine TL.isIndex ?_; refine TL.indexArr rfl rfl (by omega) rfl rfl ?_) | (refine TL.isAdd ?_; refine TL.addI rfl rfl (by omega) (by omega) rfl ?_) | refine TL.nil ?_ | refine thenQ_normal ?_ | refine T.region ?_ | refine blockQ_normal ?_ | (refine TL.isStore ?_; (refine TL.store1 rfl rfl yB (by exact rfl) (by exact rfl) (by exact rfl) ?_; intro w' hu hbk hsz)))
  exact loopQ_normal 1 ⟨rfl, rfl, rfl, rfl, trivial⟩ ⟨by omega, by omega, yB, by assumption, yB, yG⟩ (by omega)
 ·refine T.weaken (e' := [(12, .int .i64 1), (6, _), (5, _), (4, _)]) ?_ ⟨rfl, rfl, rfl, rfl, trivial⟩
  replace m0 : Blk v bn1 63 [W1 (x0 + y0), W1 (x1), W1 (x2), W1 (x3), W1 (x4)] := m0
  have n0 := m0.lt
  have n1 := m1.lt
  have n2 := mr.lt
  repeat (first | (refine TL.isMove ?_; refine TL.pure rfl rfl ?_) | (refine TL.isAsg ?_; refine TL.pure rfl rfl ?_) | refine TL.nil ?_ | refine thenQ_normal ?_ | refine T.seq ?_ | refine T.region ?_ | refine T.block ?_ | (refine TL.isBin ?_; refine TL.pure rfl rfl ?_) | refine T.cond_true rfl ?_ | refine T.skip ?_)
  apply T.any 7 [is _, is _, is _, is _, is _, is _, is _]; (· kernel_rfl); (· ((repeat' (first | exact allDo_end | refine allDo_cons ?_ ?_)); (iterate 7 (· ((refine does_mk0 rfl rfl rfl ?_); ( intro wq _ _ hgq; (repeat (refine need_cons rfl rfl ?_; intro vq hvq; try (obtain rfl := hvq))); (refine need_nil ?_)); (repeat (first | (refine TL.isMove ?_; refine TL.pure rfl rfl ?_) | refine TL.load1 rfl yM rfl ?_ | (refine TL.isIndex ?_; refine TL.indexArr rfl rfl (by omega) rfl rfl ?_) | (refine TL.isAdd ?_; refine TL.addU rfl rfl rfl (by omega) rfl ?_) | refine TL.nil ?_)); exact one_end rfl yG rfl))))); (rintro _ _ _ hgr _ _; (repeat (refine need_cons rfl rfl ?_; intro vq hvq; try (obtain rfl := hvq))); (refine need_nil ?_))
  repeat (first | (refine TL.isMove ?_; refine TL.pure rfl rfl ?_) | (refine TL.isIndex ?_; refine TL.indexArr rfl rfl (by omega) rfl rfl ?_) | (refine TL.isAdd ?_; refine TL.addI rfl rfl (by omega) (by omega) rfl ?_) | refine TL.nil ?_ | refine thenQ_normal ?_ | refine T.region ?_ | refine blockQ_normal ?_ | (refine TL.isStore ?_; (refine TL.store1 rfl rfl yB (by exact rfl) (by exact rfl) (by exact rfl) ?_; intro w' hu hbk hsz)))
  exact loopQ_normal 2 ⟨rfl, rfl, rfl, rfl, trivial⟩ ⟨by omega, by omega, yB, by assumption, yB, yG⟩ (by omega)
 ·refine T.weaken (e' := [(12, .int .i64 2), (6, _), (5, _), (4, _)]) ?_ ⟨rfl, rfl, rfl, rfl, trivial⟩
  replace m0 : Blk v bn1 63 [W1 (x0 + y0), W1 (x1 + y1), W1 (x2), W1 (x3), W1 (x4)] := m0
  have n0 := m0.lt
  have n1 := m1.lt
  have n2 := mr.lt
  repeat (first | (refine TL.isMove ?_; refine TL.pure rfl rfl ?_) | (refine TL.isAsg ?_; refine TL.pure rfl rfl ?_) | refine TL.nil ?_ | refine thenQ_normal ?_ | refine T.seq ?_ | refine T.region ?_ | refine T.block ?_ | (refine TL.isBin ?_; refine TL.pure rfl rfl ?_) | refine T.cond_true rfl ?_ | refine T.skip ?_)
  apply T.any 7 [is _, is _, is _, is _, is _, is _, is _]; (· kernel_rfl); (· ((repeat' (first | exact allDo_end | refine allDo_cons ?_ ?_)); (iterate 7 (· ((refine does_mk0 rfl rfl rfl ?_); ( intro wq _ _ hgq; (repeat (refine need_cons rfl rfl ?_; intro vq hvq; try (obtain rfl := hvq))); (refine need_nil ?_)); (repeat (first | (refine TL.isMove ?_; refine TL.pure rfl rfl ?_) | refine TL.load1 rfl yM rfl ?_ | (refine TL.isIndex ?_; refine TL.indexArr rfl rfl (by omega) rfl rfl ?_) | (refine TL.isAdd ?_; refine TL.addU rfl rfl rfl (by omega) rfl ?_) | refine TL.nil ?_)); exact one_end rfl yG rfl))))); (rintro _ _ _ hgr _ _; (repeat (refine need_cons rfl rfl ?_; intro vq hvq; try (obtain rfl := hvq))); (refine need_nil ?_))
  repeat (first | (refine TL.isMove ?_; refine TL.pure rfl rfl ?_) | (refine TL.isIndex ?_; refine TL.indexArr rfl rfl (by omega) rfl rfl ?_) | (refine TL.isAdd ?_; refine TL.addI rfl rfl (by omega) (by omega) rfl ?_) | refine TL.nil ?_ | refine thenQ_normal ?_ | refine T.region ?_ | refine blockQ_normal ?_ | (refine TL.isStore ?_; (refine TL.store1 rfl rfl yB (by exact rfl) (by exact rfl) (by exact rfl) ?_; intro w' hu hbk hsz)))
  exact loopQ_normal 3 ⟨rfl, rfl, rfl, rfl, trivial⟩ ⟨by omega, by omega, yB, by assumption, yB, yG⟩ (by omega)
 ·refine T.weaken (e' := [(12, .int .i64 3), (6, _), (5, _), (4, _)]) ?_ ⟨rfl, rfl, rfl, rfl, trivial⟩
  replace m0 : Blk v bn1 63 [W1 (x0 + y0), W1 (x1 + y1), W1 (x2 + y2), W1 (x3), W1 (x4)] := m0
  have n0 := m0.lt
  have n1 := m1.lt
  have n2 := mr.lt
  repeat (first | (refine TL.isMove ?_; refine TL.pure rfl rfl ?_) | (refine TL.isAsg ?_; refine TL.pure rfl rfl ?_) | refine TL.nil ?_ | refine thenQ_normal ?_ | refine T.seq ?_ | refine T.region ?_ | refine T.block ?_ | (refine TL.isBin ?_; refine TL.pure rfl rfl ?_) | refine T.cond_true rfl ?_ | refine T.skip ?_)
  apply T.any 7 [is _, is _, is _, is _, is _, is _, is _]; (· kernel_rfl); (· ((repeat' (first | exact allDo_end | refine allDo_cons ?_ ?_)); (iterate 7 (· ((refine does_mk0 rfl rfl rfl ?_); ( intro wq _ _ hgq; (repeat (refine need_cons rfl rfl ?_; intro vq hvq; try (obtain rfl := hvq))); (refine need_nil ?_)); (repeat (first | (refine TL.isMove ?_; refine TL.pure rfl rfl ?_) | refine TL.load1 rfl yM rfl ?_ | (refine TL.isIndex ?_; refine TL.indexArr rfl rfl (by omega) rfl rfl ?_) | (refine TL.isAdd ?_; refine TL.addU rfl rfl rfl (by omega) rfl ?_) | refine TL.nil ?_)); exact one_end rfl yG rfl))))); (rintro _ _ _ hgr _ _; (repeat (refine need_cons rfl rfl ?_; intro vq hvq; try (obtain rfl := hvq))); (refine need_nil ?_))
  repeat (first | (refine TL.isMove ?_; refine TL.pure rfl rfl ?_) | (refine TL.isIndex ?_; refine TL.indexArr rfl rfl (by omega) rfl rfl ?_) | (refine TL.isAdd ?_; refine TL.addI rfl rfl (by omega) (by omega) rfl ?_) | refine TL.nil ?_ | refine thenQ_normal ?_ | refine T.region ?_ | refine blockQ_normal ?_ | (refine TL.isStore ?_; (refine TL.store1 rfl rfl yB (by exact rfl) (by exact rfl) (by exact rfl) ?_; intro w' hu hbk hsz)))
  exact loopQ_normal 4 ⟨rfl, rfl, rfl, rfl, trivial⟩ ⟨by omega, by omega, yB, by assumption, yB, yG⟩ (by omega)
 ·refine T.weaken (e' := [(12, .int .i64 4), (6, _), (5, _), (4, _)]) ?_ ⟨rfl, rfl, rfl, rfl, trivial⟩
  replace m0 : Blk v bn1 63 [W1 (x0 + y0), W1 (x1 + y1), W1 (x2 + y2), W1 (x3 + y3), W1 (x4)] := m0
  have n0 := m0.lt
  have n1 := m1.lt
  have n2 := mr.lt
  repeat (first | (refine TL.isMove ?_; refine TL.pure rfl rfl ?_) | (refine TL.isAsg ?_; refine TL.pure rfl rfl ?_) | refine TL.nil ?_ | refine thenQ_normal ?_ | refine T.seq ?_ | refine T.region ?_ | refine T.block ?_ | (refine TL.isBin ?_; refine TL.pure rfl rfl ?_) | refine T.cond_true rfl ?_ | refine T.skip ?_)
  apply T.any 7 [is _, is _, is _, is _, is _, is _, is _]; (· kernel_rfl); (· ((repeat' (first | exact allDo_end | refine allDo_cons ?_ ?_)); (iterate 7 (· ((refine does_mk0 rfl rfl rfl ?_); ( intro wq _ _ hgq; (repeat (refine need_cons rfl rfl ?_; intro vq hvq; try (obtain rfl := hvq))); (refine need_nil ?_)); (repeat (first | (refine TL.isMove ?_; refine TL.pure rfl rfl ?_) | refine TL.load1 rfl yM rfl ?_ | (refine TL.isIndex ?_; refine TL.indexArr rfl rfl (by omega) rfl rfl ?_) | (refine TL.isAdd ?_; refine TL.addU rfl rfl rfl (by omega) rfl ?_) | refine TL.nil ?_)); exact one_end rfl yG rfl))))); (rintro _ _ _ hgr _ _; (repeat (refine need_cons rfl rfl ?_; intro vq hvq; try (obtain rfl := hvq))); (refine need_nil ?_))
  repeat (first | (refine TL.isMove ?_; refine TL.pure rfl rfl ?_) | (refine TL.isIndex ?_; refine TL.indexArr rfl rfl (by omega) rfl rfl ?_) | (refine TL.isAdd ?_; refine TL.addI rfl rfl (by omega) (by omega) rfl ?_) | refine TL.nil ?_ | refine thenQ_normal ?_ | refine T.region ?_ | refine blockQ_normal ?_ | (refine TL.isStore ?_; (refine TL.store1 rfl rfl yB (by exact rfl) (by exact rfl) (by exact rfl) ?_; intro w' hu hbk hsz)))
  exact loopQ_normal 5 ⟨rfl, rfl, rfl, rfl, trivial⟩ ⟨by omega, by omega, yB, by assumption, yB, yG⟩ (by omega)
 ·refine T.weaken (e' := [(12, .int .i64 5), (6, _), (5, _), (4, _)]) ?_ ⟨rfl, rfl, rfl, rfl, trivial⟩
  replace m0 : Blk v bn1 63 [W1 (x0 + y0), W1 (x1 + y1), W1 (x2 + y2), W1 (x3 + y3), W1 (x4 + y4)] := m0
  have n0 := m0.lt
  have n1 := m1.lt
  have n2 := mr.lt
  repeat (first | (refine TL.isLoad ?_; refine TL.loadW rfl yB (by exact rfl) rfl ?_) | refine TL.nil ?_ | refine thenQ_normal ?_ | refine T.seq ?_ | refine T.region ?_ | (refine TL.isBin ?_; refine TL.pure rfl rfl ?_) | refine T.cond_false rfl ?_ | refine T.exit ?_ | refine thenQ_exit ?_ | refine blockQ_hit ?_ | refine loopQ_exit ?_)
  refine TL.call rfl (store_c _ _ _ _ _ (by omega) (by omega) (by omega) (by omega) (by omega) _) rfl ?_
  rintro _ w5 ⟨rfl, hg5⟩
  rw [V5_add, hx, hy]
  repeat (first | refine TL.nil ?_ | refine thenQ_normal ?_ | (refine TL.isStore ?_; (refine TL.storeWh rfl rfl yB (by exact rfl) (by exact rfl) (by exact rfl) ?_; intro w' hu hbk hsz)) | refine T.ret ?_)
  exact retC rfl (load_whole (by assumption) rfl) ⟨_, rfl, rfl, yG⟩
theorem sub_c (N M : Nat) (hN : N < 115792089237316195423570985008687907853269984665640564039457584007913129639936) (hM : M < 115792089237316195423570985008687907853269984665640564039457584007913129639936) (w : World) :
  Calls Try.prog 32 #[num N, num M] w (Ret fun v w' => v = num ((N + (p25519 - M % p25519)) % p25519) ∧ Grow w w') := by
 refine V.calls (args := [_, _]) Try.func32 rfl Try.ntmps32 rfl rfl ?_
 have h0 := l0_lt N
 have h1 := l1_lt N
 have h2 := l2_lt N
 have h3 := l3_lt N
 have h4 := l4_lt hN
 have k0 := l0_lt M
 have k1 := l1_lt M
 have k2 := l2_lt M
 have k3 := l3_lt M
 have k4 := l4_lt hM
 have hx := V5_l N
 have hy := V5_l M
 repeat (first | refine TL.nil ?_ | refine thenQ_normal ?_ | refine T.seq ?_ | refine T.region ?_ | (refine TL.isBox ?_; (refine TL.box rfl rfl rfl ?_; intro bk w' hg hbk hsz hsz')) | (refine TL.isAlloc ?_; (refine TL.alloc rfl rfl ?_; intro bk w' hg hbk hsz hsz')))
 (apply T.any 6 [is _, is _, is _, is _, newB 63 [W1 0, W1 0, W1 0, W1 0, W1 0], newB 63 [W1 0, W1 0, W1 0, W1 0, W1 0]]; (· kernel_rfl); (· ((repeat' (first | exact allDo_end | refine allDo_cons ?_ ?_)); (iterate 4 (· ((refine does_mk0 rfl rfl rfl ?_); ( intro wq _ _ hgq; (repeat (refine need_cons rfl rfl ?_; intro vq hvq; try (obtain rfl := hvq))); (refine need_nil ?_)); (repeat (first | (refine TL.isLoad ?_; refine TL.loadW rfl yB (by exact rfl) rfl ?_) | refine TL.nil ?_ | (refine TL.call rfl (load_c _ (by assumption) _) rfl ?_; rintro _ _ ⟨rfl, hgc⟩))); exact one_end rfl yG rfl))); (iterate 2 (· (refine does_mk0 rfl rfl rfl ?_); ( intro wq _ _ hgq; (repeat (refine need_cons rfl rfl ?_; intro vq hvq; try (obtain rfl := hvq))); (refine need_nil ?_)); (repeat (first | refine TL.nil ?_ | (refine TL.isAlloc ?_; (refine TL.alloc rfl rfl ?_; intro bk w' hg hbk hsz hsz')))); exact one_end rfl yG ⟨_, rfl, by omega, by omega, by assumption⟩)))); (rintro _ _ _ hgr hspan hdj; (repeat (refine need_cons rfl rfl ?_; intro vq hvq; try (obtain rfl := hvq))); (refine need_nil ?_)); obtain ⟨bn2, rfl, hl2, hh2, hnb2⟩ := hvq; obtain ⟨bn1, rfl, hl1, hh1, hnb1⟩ := hvq; (try simp only [Nat.reduceAdd] at hl1 hh1 hl2 hh2); have hd21 : bn2 ≠ bn1 := (by have hz := hdj 5 4 (by omega) (by omega) (by omega); omega); have hsp := hspan 4 (by omega); replace hl1 := Nat.le_trans hsp.1 hl1; replace hh1 := Nat.lt_of_lt_of_le hh1 hsp.2.2; clear hsp; have hsp := hspan 5 (by omega); replace hl2 := Nat.le_trans hsp.1 hl2; replace hh2 := Nat.lt_of_lt_of_le hh2 hsp.2.2; clear hsp; clear hspan hdj)
 generalize l0 N = x0 at *
 generalize l1 N = x1 at *
 generalize l2 N = x2 at *
 generalize l3 N = x3 at *
 generalize l4 N = x4 at *
 generalize l0 M = y0 at *
 generalize l1 M = y1 at *
 generalize l2 M = y2 at *
 generalize l3 M = y3 at *
 generalize l4 M = y4 at *
 repeat (first | (refine TL.isAsg ?_; refine TL.pure rfl rfl ?_) | refine TL.load1 rfl yM rfl ?_ | (refine TL.isIndex ?_; refine TL.indexArr rfl rfl (by omega) rfl rfl ?_) | (refine TL.isAdd ?_; refine TL.addU rfl rfl rfl (by omega) rfl ?_) | (refine TL.isSub ?_; refine TL.subU rfl rfl rfl (by omega) (by omega) rfl ?_) | refine TL.nil ?_ | refine thenQ_normal ?_ | refine T.seq ?_ | refine T.region ?_ | refine T.block ?_ | (refine TL.isStore ?_; first | (refine TL.store1 rfl rfl yB (by exact rfl) (by exact rfl) (by exact rfl) ?_; intro w' hu hbk hsz) | (refine TL.storeWh rfl rfl yB (by exact rfl) (by exact rfl) (by exact rfl) ?_; intro w' hu hbk hsz)))
 have c1 : Blk w' bn2 63 [W1 y0, W1 y1, W1 y2, W1 y3, W1 y4] := by exact yB
 have c0 : Blk w' bn1 63 (subw x0 x1 x2 x3 x4 y0 y1 y2 y3 y4 1) := by assumption
 have cr : Blk w' bk 23 zeros := by exact yB
 have hG : Grow w w' := by exact yG
 have hb1 := c0.lt
 have hb2 := c1.lt
 have hb3 := cr.lt
 have hbn1 : bn1 ≠ bk := by omega
 have hbn2 : bn2 ≠ bk := by omega
 refine T.loop (S := Nat) (fun k => [(7, .int .i64 (k : Int)), (6, .pointer (some ⟨bn2, 0, none⟩)), (5, .pointer (some ⟨bn1, 0, none⟩)), (4, .pointer (some ⟨bk, 0, none⟩))]) (fun k v => 1 ≤ k ∧ k ≤ 5 ∧ Blk v bn2 63 [W1 y0, W1 y1, W1 y2, W1 y3, W1 y4] ∧ Blk v bn1 63 (subw x0 x1 x2 x3 x4 y0 y1 y2 y3 y4 k) ∧ Blk v bk 23 zeros ∧ Grow w v) (fun k => 5 - k) 1 ⟨rfl, rfl, rfl, rfl, trivial⟩ ⟨by omega, by omega, by assumption, by assumption, by assumption, by assumption⟩ ?_
 rintro k v ⟨hk1, hk, m1, m0, mr, hGv⟩
 obtain rfl | rfl | rfl | rfl | rfl : k = 1 ∨ k = 2 ∨ k = 3 ∨ k = 4 ∨ k = 5 := by omega
 ·refine T.weaken (e' := [(7, .int .i64 1), (6, _), (5, _), (4, _)]) ?_ ⟨rfl, rfl, rfl, rfl, trivial⟩
  replace m0 : Blk v bn1 63 [W1 (x0 + (9007199254740916 - y0)), W1 (x1), W1 (x2), W1 (x3), W1 (x4)] := m0
  have n0 := m0.lt
  have n1 := m1.lt
  have n2 := mr.lt
  repeat (first | (refine TL.isMove ?_; refine TL.pure rfl rfl ?_) | refine TL.nil ?_ | refine thenQ_normal ?_ | refine T.seq ?_ | refine T.region ?_ | refine T.block ?_ | (refine TL.isBin ?_; refine TL.pure rfl rfl ?_) | refine T.cond_true rfl ?_ | refine T.skip ?_)
  apply T.any 8 [is _, is _, is _, is _, is _, is _, is _, is _]; (· kernel_rfl); (· ((repeat' (first | exact allDo_end | refine allDo_cons ?_ ?_)); (iterate 8 (· ((refine does_mk0 rfl rfl rfl ?_); ( intro wq _ _ hgq; (repeat (refine need_cons rfl rfl ?_; intro vq hvq; try (obtain rfl := hvq))); (refine need_nil ?_)); (repeat (first | (refine TL.isMove ?_; refine TL.pure rfl rfl ?_) | refine TL.load1 rfl yM rfl ?_ | (refine TL.isIndex ?_; refine TL.indexArr rfl rfl (by omega) rfl rfl ?_) | (refine TL.isAdd ?_; refine TL.addU rfl rfl rfl (by omega) rfl ?_) | (refine TL.isSub ?_; refine TL.subU rfl rfl rfl (by omega) (by omega) rfl ?_) | refine TL.nil ?_)); exact one_end rfl yG rfl))))); (rintro _ _ _ hgr _ _; (repeat (refine need_cons rfl rfl ?_; intro vq hvq; try (obtain rfl := hvq))); (refine need_nil ?_))
  repeat (first | (refine TL.isMove ?_; refine TL.pure rfl rfl ?_) | (refine TL.isAsg ?_; refine TL.pure rfl rfl ?_) | (refine TL.isIndex ?_; refine TL.indexArr rfl rfl (by omega) rfl rfl ?_) | (refine TL.isAdd ?_; refine TL.addI rfl rfl (by omega) (by omega) rfl ?_) | refine TL.nil ?_ | refine thenQ_normal ?_ | refine T.region ?_ | refine blockQ_normal ?_ | (refine TL.isStore ?_; (refine TL.store1 rfl rfl yB (by exact rfl) (by exact rfl) (by exact rfl) ?_; intro w' hu hbk hsz)))
  exact loopQ_normal 2 ⟨rfl, rfl, rfl, rfl, trivial⟩ ⟨by omega, by omega, yB, by assumption, yB, yG⟩ (by omega)
 ·refine T.weaken (e' := [(7, .int .i64 2), (6, _), (5, _), (4, _)]) ?_ ⟨rfl, rfl, rfl, rfl, trivial⟩
  replace m0 : Blk v bn1 63 [W1 (x0 + (9007199254740916 - y0)), W1 (x1 + (9007199254740988 - y1)), W1 (x2), W1 (x3), W1 (x4)] := m0
  have n0 := m0.lt
  have n1 := m1.lt
  have n2 := mr.lt
  repeat (first | (refine TL.isMove ?_; refine TL.pure rfl rfl ?_) | refine TL.nil ?_ | refine thenQ_normal ?_ | refine T.seq ?_ | refine T.region ?_ | refine T.block ?_ | (refine TL.isBin ?_; refine TL.pure rfl rfl ?_) | refine T.cond_true rfl ?_ | refine T.skip ?_)
  apply T.any 8 [is _, is _, is _, is _, is _, is _, is _, is _]; (· kernel_rfl); (· ((repeat' (first | exact allDo_end | refine allDo_cons ?_ ?_)); (iterate 8 (· ((refine does_mk0 rfl rfl rfl ?_); ( intro wq _ _ hgq; (repeat (refine need_cons rfl rfl ?_; intro vq hvq; try (obtain rfl := hvq))); (refine need_nil ?_)); (repeat (first | (refine TL.isMove ?_; refine TL.pure rfl rfl ?_) | refine TL.load1 rfl yM rfl ?_ | (refine TL.isIndex ?_; refine TL.indexArr rfl rfl (by omega) rfl rfl ?_) | (refine TL.isAdd ?_; refine TL.addU rfl rfl rfl (by omega) rfl ?_) | (refine TL.isSub ?_; refine TL.subU rfl rfl rfl (by omega) (by omega) rfl ?_) | refine TL.nil ?_)); exact one_end rfl yG rfl))))); (rintro _ _ _ hgr _ _; (repeat (refine need_cons rfl rfl ?_; intro vq hvq; try (obtain rfl := hvq))); (refine need_nil ?_))
  repeat (first | (refine TL.isMove ?_; refine TL.pure rfl rfl ?_) | (refine TL.isAsg ?_; refine TL.pure rfl rfl ?_) | (refine TL.isIndex ?_; refine TL.indexArr rfl rfl (by omega) rfl rfl ?_) | (refine TL.isAdd ?_; refine TL.addI rfl rfl (by omega) (by omega) rfl ?_) | refine TL.nil ?_ | refine thenQ_normal ?_ | refine T.region ?_ | refine blockQ_normal ?_ | (refine TL.isStore ?_; (refine TL.store1 rfl rfl yB (by exact rfl) (by exact rfl) (by exact rfl) ?_; intro w' hu hbk hsz)))
  exact loopQ_normal 3 ⟨rfl, rfl, rfl, rfl, trivial⟩ ⟨by omega, by omega, yB, by assumption, yB, yG⟩ (by omega)
 ·refine T.weaken (e' := [(7, .int .i64 3), (6, _), (5, _), (4, _)]) ?_ ⟨rfl, rfl, rfl, rfl, trivial⟩
  replace m0 : Blk v bn1 63 [W1 (x0 + (9007199254740916 - y0)), W1 (x1 + (9007199254740988 - y1)), W1 (x2 + (9007199254740988 - y2)), W1 (x3), W1 (x4)] := m0
  have n0 := m0.lt
  have n1 := m1.lt
  have n2 := mr.lt
  repeat (first | (refine TL.isMove ?_; refine TL.pure rfl rfl ?_) | refine TL.nil ?_ | refine thenQ_normal ?_ | refine T.seq ?_ | refine T.region ?_ | refine T.block ?_ | (refine TL.isBin ?_; refine TL.pure rfl rfl ?_) | refine T.cond_true rfl ?_ | refine T.skip ?_)
  apply T.any 8 [is _, is _, is _, is _, is _, is _, is _, is _]; (· kernel_rfl); (· ((repeat' (first | exact allDo_end | refine allDo_cons ?_ ?_)); (iterate 8 (· ((refine does_mk0 rfl rfl rfl ?_); ( intro wq _ _ hgq; (repeat (refine need_cons rfl rfl ?_; intro vq hvq; try (obtain rfl := hvq))); (refine need_nil ?_)); (repeat (first | (refine TL.isMove ?_; refine TL.pure rfl rfl ?_) | refine TL.load1 rfl yM rfl ?_ | (refine TL.isIndex ?_; refine TL.indexArr rfl rfl (by omega) rfl rfl ?_) | (refine TL.isAdd ?_; refine TL.addU rfl rfl rfl (by omega) rfl ?_) | (refine TL.isSub ?_; refine TL.subU rfl rfl rfl (by omega) (by omega) rfl ?_) | refine TL.nil ?_)); exact one_end rfl yG rfl))))); (rintro _ _ _ hgr _ _; (repeat (refine need_cons rfl rfl ?_; intro vq hvq; try (obtain rfl := hvq))); (refine need_nil ?_))
  repeat (first | (refine TL.isMove ?_; refine TL.pure rfl rfl ?_) | (refine TL.isAsg ?_; refine TL.pure rfl rfl ?_) | (refine TL.isIndex ?_; refine TL.indexArr rfl rfl (by omega) rfl rfl ?_) | (refine TL.isAdd ?_; refine TL.addI rfl rfl (by omega) (by omega) rfl ?_) | refine TL.nil ?_ | refine thenQ_normal ?_ | refine T.region ?_ | refine blockQ_normal ?_ | (refine TL.isStore ?_; (refine TL.store1 rfl rfl yB (by exact rfl) (by exact rfl) (by exact rfl) ?_; intro w' hu hbk hsz)))
  exact loopQ_normal 4 ⟨rfl, rfl, rfl, rfl, trivial⟩ ⟨by omega, by omega, yB, by assumption, yB, yG⟩ (by omega)
 ·refine T.weaken (e' := [(7, .int .i64 4), (6, _), (5, _), (4, _)]) ?_ ⟨rfl, rfl, rfl, rfl, trivial⟩
  replace m0 : Blk v bn1 63 [W1 (x0 + (9007199254740916 - y0)), W1 (x1 + (9007199254740988 - y1)), W1 (x2 + (9007199254740988 - y2)), W1 (x3 + (9007199254740988 - y3)), W1 (x4)] := m0
  have n0 := m0.lt
  have n1 := m1.lt
  have n2 := mr.lt
  repeat (first | (refine TL.isMove ?_; refine TL.pure rfl rfl ?_) | refine TL.nil ?_ | refine thenQ_normal ?_ | refine T.seq ?_ | refine T.region ?_ | refine T.block ?_ | (refine TL.isBin ?_; refine TL.pure rfl rfl ?_) | refine T.cond_true rfl ?_ | refine T.skip ?_)
  apply T.any 8 [is _, is _, is _, is _, is _, is _, is _, is _]; (· kernel_rfl); (· ((repeat' (first | exact allDo_end | refine allDo_cons ?_ ?_)); (iterate 8 (· ((refine does_mk0 rfl rfl rfl ?_); ( intro wq _ _ hgq; (repeat (refine need_cons rfl rfl ?_; intro vq hvq; try (obtain rfl := hvq))); (refine need_nil ?_)); (repeat (first | (refine TL.isMove ?_; refine TL.pure rfl rfl ?_) | refine TL.load1 rfl yM rfl ?_ | (refine TL.isIndex ?_; refine TL.indexArr rfl rfl (by omega) rfl rfl ?_) | (refine TL.isAdd ?_; refine TL.addU rfl rfl rfl (by omega) rfl ?_) | (refine TL.isSub ?_; refine TL.subU rfl rfl rfl (by omega) (by omega) rfl ?_) | refine TL.nil ?_)); exact one_end rfl yG rfl))))); (rintro _ _ _ hgr _ _; (repeat (refine need_cons rfl rfl ?_; intro vq hvq; try (obtain rfl := hvq))); (refine need_nil ?_))
  repeat (first | (refine TL.isMove ?_; refine TL.pure rfl rfl ?_) | (refine TL.isAsg ?_; refine TL.pure rfl rfl ?_) | (refine TL.isIndex ?_; refine TL.indexArr rfl rfl (by omega) rfl rfl ?_) | (refine TL.isAdd ?_; refine TL.addI rfl rfl (by omega) (by omega) rfl ?_) | refine TL.nil ?_ | refine thenQ_normal ?_ | refine T.region ?_ | refine blockQ_normal ?_ | (refine TL.isStore ?_; (refine TL.store1 rfl rfl yB (by exact rfl) (by exact rfl) (by exact rfl) ?_; intro w' hu hbk hsz)))
  exact loopQ_normal 5 ⟨rfl, rfl, rfl, rfl, trivial⟩ ⟨by omega, by omega, yB, by assumption, yB, yG⟩ (by omega)
 ·refine T.weaken (e' := [(7, .int .i64 5), (6, _), (5, _), (4, _)]) ?_ ⟨rfl, rfl, rfl, rfl, trivial⟩
  replace m0 : Blk v bn1 63 [W1 (x0 + (9007199254740916 - y0)), W1 (x1 + (9007199254740988 - y1)), W1 (x2 + (9007199254740988 - y2)), W1 (x3 + (9007199254740988 - y3)), W1 (x4 + (9007199254740988 - y4))] := m0
  have n0 := m0.lt
  have n1 := m1.lt
  have n2 := mr.lt
  repeat (first | (refine TL.isMove ?_; refine TL.pure rfl rfl ?_) | (refine TL.isLoad ?_; refine TL.loadW rfl yB (by exact rfl) rfl ?_) | refine TL.nil ?_ | refine thenQ_normal ?_ | refine T.seq ?_ | refine T.region ?_ | (refine TL.isBin ?_; refine TL.pure rfl rfl ?_) | refine T.cond_false rfl ?_ | refine T.exit ?_ | refine thenQ_exit ?_ | refine blockQ_hit ?_ | refine loopQ_exit ?_)
  refine TL.call rfl (store_c _ _ _ _ _ (by omega) (by omega) (by omega) (by omega) (by omega) _) rfl ?_
  rintro _ w5 ⟨rfl, hg5⟩
  rw [sub_mod hM (show V5 _ _ _ _ _ + M = N + 4 * p25519 from by rw [← hy, V5_sub _ _ _ _ _ _ _ _ _ _ (by omega) (by omega) (by omega) (by omega) (by omega), hx])]
  repeat (first | refine TL.nil ?_ | refine thenQ_normal ?_ | (refine TL.isStore ?_; (refine TL.storeWh rfl rfl yB (by exact rfl) (by exact rfl) (by exact rfl) ?_; intro w' hu hbk hsz)) | refine T.ret ?_)
  exact retC rfl (load_whole (by assumption) rfl) ⟨_, rfl, rfl, yG⟩
theorem neg_c (N : Nat) (hN : N < 115792089237316195423570985008687907853269984665640564039457584007913129639936) (w : World) :
  Calls Try.prog 19 #[num N] w (Ret fun v w' => v = num ((p25519 - N % p25519) % p25519) ∧ Grow w w') := by
 refine V.calls (args := [_]) Try.func19 rfl Try.ntmps19 rfl rfl ?_
 repeat (first | (refine TL.isLoad ?_; refine TL.loadW rfl yB (by exact rfl) rfl ?_) | refine TL.nil ?_ | refine thenQ_normal ?_ | refine T.seq ?_ | refine T.region ?_ | (refine TL.isBox ?_; (refine TL.box rfl rfl rfl ?_; intro bk w' hg hbk hsz hsz')) | (refine TL.isAlloc ?_; (refine TL.alloc rfl rfl ?_; intro bk w' hg hbk hsz hsz')) | refine TL.buildArr rfl rfl rfl ?_)
 refine TL.call rfl (sub_c 0 N (by omega) hN _) rfl ?_
 rintro _ w3 ⟨rfl, hg3⟩
 repeat (first | refine TL.nil ?_ | refine thenQ_normal ?_ | (refine TL.isStore ?_; (refine TL.storeWh rfl rfl yB (by exact rfl) (by exact rfl) (by exact rfl) ?_; intro w' hu hbk hsz)) | refine T.ret ?_)
 exact retC rfl (load_whole (by assumption) rfl) ⟨_, rfl, by rw [Nat.zero_add], yG⟩
end Go.Proofs.Ytmpjigghgedjbaa
namespace Go.Proofs.Ytmpjigghgedjbaa
open Go Go.RowKit Go.V
abbrev qv (E : Nat) : Value := .agg #[W1 (q0 E), W1 (q1 E), W1 (q2 E), W1 (q3 E)]
theorem shifted_c (E : Nat) (w : World) :
  Calls Try.prog 72 #[qv E] w (Ret fun v w' => v = qv (2 * E) ∧ Grow w w') := by
 refine V.calls (args := [_]) Try.func72 rfl Try.ntmps72 rfl rfl ?_
 have h0 := q0_lt E
 have h1 := q1_lt E
 have h2 := q2_lt E
 have h3 := q3_lt E
 have e0 : q0 E * 2 % 18446744073709551616 = q0 (2 * E) := by unfold q0; omega
 have e1 : q1 E * 2 % 18446744073709551616 + q0 E / 9223372036854775808 = q1 (2 * E) := by unfold q0 q1; omega
 have e2 : q2 E * 2 % 18446744073709551616 + q1 E / 9223372036854775808 = q2 (2 * E) := by unfold q1 q2; omega
 have e3 : q3 E * 2 % 18446744073709551616 + q2 E / 9223372036854775808 = q3 (2 * E) := by unfold q2 q3; omega
 repeat (first | (refine TL.isAsg ?_; refine TL.pure rfl rfl ?_) | refine TL.nil ?_ | refine thenQ_normal ?_ | refine T.seq ?_ | refine T.region ?_ | refine T.block ?_ | (refine TL.isBox ?_; (refine TL.box rfl rfl rfl ?_; intro bk w' hg hbk hsz hsz')) | (refine TL.isAlloc ?_; (refine TL.alloc rfl rfl ?_; intro bk w' hg hbk hsz hsz')))
 rename_i b1 w1 g1 k1 s1 t1
 have hbn1 : b1 ≠ bk := by omega
 have c1 : Blk w' b1 66 [W1 (q0 E), W1 (q1 E), W1 (q2 E), W1 (q3 E)] := by exact yB
 have c2 : Blk w' bk 66 [W1 0, W1 0, W1 0, W1 0] := hbk
 have hG : Grow w w' := by exact yG
 refine T.loop (S := Nat) (fun k => [(3, .int .i64 (((3 - k : Nat) : Nat) : Int)), (2, .pointer (some ⟨bk, 0, none⟩)), (1, .pointer (some ⟨b1, 0, none⟩))])
  (fun k v => k ≤ 3 ∧ Blk v b1 66 [W1 (q0 E), W1 (if 3 ≤ k then q1 (2 * E) else q1 E), W1 (if 2 ≤ k then q2 (2 * E) else q2 E), W1 (if 1 ≤ k then q3 (2 * E) else q3 E)] ∧ Blk v bk 66 [W1 0, W1 0, W1 0, W1 0] ∧ Grow w v) (fun k => 3 - k) 0 ⟨rfl, rfl, rfl, trivial⟩ ⟨by omega, by assumption, by assumption, by assumption⟩ ?_
 rintro k v ⟨hk, m1, m2, hGv⟩
 have n1 := m1.lt
 have n2 := m2.lt
 obtain rfl | rfl | rfl | rfl : k = 0 ∨ k = 1 ∨ k = 2 ∨ k = 3 := by omega
 ·refine T.weaken (e' := [(3, .int .i64 3), (2, _), (1, _)]) ?_ ⟨rfl, rfl, rfl, trivial⟩
  replace m1 : Blk v b1 66 [W1 (q0 E), W1 (q1 E), W1 (q2 E), W1 (q3 E)] := m1
  repeat (first | (refine TL.isMove ?_; refine TL.pure rfl rfl ?_) | refine TL.nil ?_ | refine thenQ_normal ?_ | refine T.seq ?_ | refine T.region ?_ | refine T.block ?_ | (refine TL.isBin ?_; refine TL.pure rfl rfl ?_) | refine T.cond_true rfl ?_ | refine T.skip ?_)
  apply T.any 11 [is _, is _, is _, is _, is _, is _, is _, is _, is _, is _, is _]; (· kernel_rfl); (· ((repeat' (first | exact allDo_end | refine allDo_cons ?_ ?_)); (iterate 11 (· ((refine does_mk0 rfl rfl rfl ?_); ( intro wq _ _ hgq; (repeat (refine need_cons rfl rfl ?_; intro vq hvq; try (obtain rfl := hvq))); (refine need_nil ?_)); (repeat (first | (refine TL.isMove ?_; refine TL.pure rfl rfl ?_) | refine TL.load1 rfl yM rfl ?_ | (refine TL.isIndex ?_; refine TL.indexArr rfl rfl (by omega) rfl rfl ?_) | (refine TL.isSub ?_; refine TL.subI rfl rfl (by omega) (by omega) rfl ?_) | refine TL.nil ?_ | (refine TL.isOr ?_; refine TL.orL rfl rfl rfl rfl rfl (by omega) rfl rfl ?_) | refine TL.shlW rfl rfl rfl rfl rfl rfl ?_ | refine TL.shrU rfl rfl rfl rfl rfl rfl ?_)); exact one_end rfl yG rfl))))); (rintro _ _ _ hgr _ _; (repeat (refine need_cons rfl rfl ?_; intro vq hvq; try (obtain rfl := hvq))); (refine need_nil ?_))
  rw [e3]
  repeat (first | (refine TL.isMove ?_; refine TL.pure rfl rfl ?_) | (refine TL.isAsg ?_; refine TL.pure rfl rfl ?_) | (refine TL.isIndex ?_; refine TL.indexArr rfl rfl (by omega) rfl rfl ?_) | (refine TL.isSub ?_; refine TL.subI rfl rfl (by omega) (by omega) rfl ?_) | refine TL.nil ?_ | refine thenQ_normal ?_ | refine T.region ?_ | refine blockQ_normal ?_ | (refine TL.isStore ?_; (refine TL.store1 rfl rfl yB (by exact rfl) (by exact rfl) (by exact rfl) ?_; intro w' hu hbk hsz)))
  exact loopQ_normal 1 ⟨rfl, rfl, rfl, trivial⟩ ⟨by omega, by assumption, yB, yG⟩ (by omega)
 ·refine T.weaken (e' := [(3, .int .i64 2), (2, _), (1, _)]) ?_ ⟨rfl, rfl, rfl, trivial⟩
  replace m1 : Blk v b1 66 [W1 (q0 E), W1 (q1 E), W1 (q2 E), W1 (q3 (2 * E))] := m1
  repeat (first | (refine TL.isMove ?_; refine TL.pure rfl rfl ?_) | refine TL.nil ?_ | refine thenQ_normal ?_ | refine T.seq ?_ | refine T.region ?_ | refine T.block ?_ | (refine TL.isBin ?_; refine TL.pure rfl rfl ?_) | refine T.cond_true rfl ?_ | refine T.skip ?_)
  apply T.any 11 [is _, is _, is _, is _, is _, is _, is _, is _, is _, is _, is _]; (· kernel_rfl); (· ((repeat' (first | exact allDo_end | refine allDo_cons ?_ ?_)); (iterate 11 (· ((refine does_mk0 rfl rfl rfl ?_); ( intro wq _ _ hgq; (repeat (refine need_cons rfl rfl ?_; intro vq hvq; try (obtain rfl := hvq))); (refine need_nil ?_)); (repeat (first | (refine TL.isMove ?_; refine TL.pure rfl rfl ?_) | refine TL.load1 rfl yM rfl ?_ | (refine TL.isIndex ?_; refine TL.indexArr rfl rfl (by omega) rfl rfl ?_) | (refine TL.isSub ?_; refine TL.subI rfl rfl (by omega) (by omega) rfl ?_) | refine TL.nil ?_ | (refine TL.isOr ?_; refine TL.orL rfl rfl rfl rfl rfl (by omega) rfl rfl ?_) | refine TL.shlW rfl rfl rfl rfl rfl rfl ?_ | refine TL.shrU rfl rfl rfl rfl rfl rfl ?_)); exact one_end rfl yG rfl))))); (rintro _ _ _ hgr _ _; (repeat (refine need_cons rfl rfl ?_; intro vq hvq; try (obtain rfl := hvq))); (refine need_nil ?_))
  rw [e2]
  repeat (first | (refine TL.isMove ?_; refine TL.pure rfl rfl ?_) | (refine TL.isAsg ?_; refine TL.pure rfl rfl ?_) | (refine TL.isIndex ?_; refine TL.indexArr rfl rfl (by omega) rfl rfl ?_) | (refine TL.isSub ?_; refine TL.subI rfl rfl (by omega) (by omega) rfl ?_) | refine TL.nil ?_ | refine thenQ_normal ?_ | refine T.region ?_ | refine blockQ_normal ?_ | (refine TL.isStore ?_; (refine TL.store1 rfl rfl yB (by exact rfl) (by exact rfl) (by exact rfl) ?_; intro w' hu hbk hsz)))
  exact loopQ_normal 2 ⟨rfl, rfl, rfl, trivial⟩ ⟨by omega, by assumption, yB, yG⟩ (by omega)
 ·refine T.weaken (e' := [(3, .int .i64 1), (2, _), (1, _)]) ?_ ⟨rfl, rfl, rfl, trivial⟩
  replace m1 : Blk v b1 66 [W1 (q0 E), W1 (q1 E), W1 (q2 (2 * E)), W1 (q3 (2 * E))] := m1
  repeat (first | (refine TL.isMove ?_; refine TL.pure rfl rfl ?_) | refine TL.nil ?_ | refine thenQ_normal ?_ | refine T.seq ?_ | refine T.region ?_ | refine T.block ?_ | (refine TL.isBin ?_; refine TL.pure rfl rfl ?_) | refine T.cond_true rfl ?_ | refine T.skip ?_)
  apply T.any 11 [is _, is _, is _, is _, is _, is _, is _, is _, is _, is _, is _]; (· kernel_rfl); (· ((repeat' (first | exact allDo_end | refine allDo_cons ?_ ?_)); (iterate 11 (· ((refine does_mk0 rfl rfl rfl ?_); ( intro wq _ _ hgq; (repeat (refine need_cons rfl rfl ?_; intro vq hvq; try (obtain rfl := hvq))); (refine need_nil ?_)); (repeat (first | (refine TL.isMove ?_; refine TL.pure rfl rfl ?_) | refine TL.load1 rfl yM rfl ?_ | (refine TL.isIndex ?_; refine TL.indexArr rfl rfl (by omega) rfl rfl ?_) | (refine TL.isSub ?_; refine TL.subI rfl rfl (by omega) (by omega) rfl ?_) | refine TL.nil ?_ | (refine TL.isOr ?_; refine TL.orL rfl rfl rfl rfl rfl (by omega) rfl rfl ?_) | refine TL.shlW rfl rfl rfl rfl rfl rfl ?_ | refine TL.shrU rfl rfl rfl rfl rfl rfl ?_)); exact one_end rfl yG rfl))))); (rintro _ _ _ hgr _ _; (repeat (refine need_cons rfl rfl ?_; intro vq hvq; try (obtain rfl := hvq))); (refine need_nil ?_))
  rw [e1]
  repeat (first | (refine TL.isMove ?_; refine TL.pure rfl rfl ?_) | (refine TL.isAsg ?_; refine TL.pure rfl rfl ?_) | (refine TL.isIndex ?_; refine TL.indexArr rfl rfl (by omega) rfl rfl ?_) | (refine TL.isSub ?_; refine TL.subI rfl rfl (by omega) (by omega) rfl ?_) | refine TL.nil ?_ | refine thenQ_normal ?_ | refine T.region ?_ | refine blockQ_normal ?_ | (refine TL.isStore ?_; (refine TL.store1 rfl rfl yB (by exact rfl) (by exact rfl) (by exact rfl) ?_; intro w' hu hbk hsz)))
  exact loopQ_normal 3 ⟨rfl, rfl, rfl, trivial⟩ ⟨by omega, by assumption, yB, yG⟩ (by omega)
 ·refine T.weaken (e' := [(3, .int .i64 0), (2, _), (1, _)]) ?_ ⟨rfl, rfl, rfl, trivial⟩
  replace m1 : Blk v b1 66 [W1 (q0 E), W1 (q1 (2 * E)), W1 (q2 (2 * E)), W1 (q3 (2 * E))] := m1
  repeat (first | (refine TL.isMove ?_; refine TL.pure rfl rfl ?_) | (refine TL.isLoad ?_; first | refine TL.load1 rfl yM rfl ?_ | refine TL.loadW rfl yB (by exact rfl) rfl ?_) | (refine TL.isIndex ?_; refine TL.indexArr rfl rfl (by omega) rfl rfl ?_) | refine TL.nil ?_ | refine thenQ_normal ?_ | refine T.seq ?_ | refine T.region ?_ | refine TL.shlW rfl rfl rfl rfl rfl rfl ?_ | (refine TL.isBin ?_; refine TL.pure rfl rfl ?_) | (refine TL.isStore ?_; first | (refine TL.store1 rfl rfl yB (by exact rfl) (by exact rfl) (by exact rfl) ?_; intro w' hu hbk hsz) | (refine TL.storeWh rfl rfl yB (by exact rfl) (by exact rfl) (by exact rfl) ?_; intro w' hu hbk hsz)) | refine T.cond_false rfl ?_ | refine T.ret ?_ | refine T.exit ?_ | refine thenQ_exit ?_ | refine blockQ_hit ?_ | refine loopQ_exit ?_)
  exact retC rfl (load_whole (by assumption) rfl) ⟨_, rfl, by simp only [e0, qv]; rfl, yG⟩
def used (E k : Nat) : Nat := E / 2 ^ (256 - k)
theorem used_0 {E : Nat} (h : E < 115792089237316195423570985008687907853269984665640564039457584007913129639936) : used E 0 = 0 := by
 show E / 115792089237316195423570985008687907853269984665640564039457584007913129639936 = 0
 omega
theorem used_256 (E : Nat) : used E 256 = E := by show E / 1 = E; omega
theorem used_succ {E k : Nat} (hk : k < 256) : used E (k + 1) = 2 * used E k + E * 2 ^ k / 57896044618658097711785492504343953926634992332820282019728792003956564819968 % 2 := by
 have h1 : 256 - k = (255 - k) + 1 := by omega
 have h2 : 256 - (k + 1) = 255 - k := by omega
 have h3 : (57896044618658097711785492504343953926634992332820282019728792003956564819968 : Nat) = 2 ^ (255 - k) * 2 ^ k := by
  rw [← Nat.pow_add, Nat.sub_add_cancel (by omega)]
 unfold used
 rw [h1, h2, h3, Nat.mul_div_mul_right _ _ (Nat.two_pow_pos k), Nat.pow_succ, ← Nat.div_div_eq_div_mul, Nat.div_add_mod]
theorem bit_q3 (X : Nat) : q3 X / 9223372036854775808 = X / 57896044618658097711785492504343953926634992332820282019728792003956564819968 % 2 := by unfold q3; omega
theorem sq_mod {x y N f p : Nat} (h : x % p = N ^ f % p) (hy : y % p = x * x % p) : y % p = N ^ (2 * f) % p := by
 rw [hy, Nat.mul_mod, h, ← Nat.mul_mod, Nat.two_mul, Nat.pow_add]
theorem mul1_mod {x y N f p : Nat} (h : x % p = N ^ f % p) (hy : y % p = x * N % p) : y % p = N ^ (f + 1) % p := by
 rw [hy, Nat.mul_mod, h, ← Nat.mul_mod, Nat.pow_succ]
def pw (N E : Nat) : Nat := N ^ E % p25519
theorem pow_c (N E : Nat) (hN : N < 115792089237316195423570985008687907853269984665640564039457584007913129639936) (hE : E < 115792089237316195423570985008687907853269984665640564039457584007913129639936) (w : World) :
  Calls Try.prog 20 #[num N, num E] w (Ret fun v w' => v = num (pw N E) ∧ Grow w w') := by
 refine V.calls (args := [_, _]) Try.func20 rfl Try.ntmps20 rfl rfl ?_
 have h0 := l0_lt N
 have h1 := l1_lt N
 have h2 := l2_lt N
 have h3 := l3_lt N
 have h4 := l4_lt hN
 have hx := V5_l N
 repeat (first | refine TL.nil ?_ | refine thenQ_normal ?_ | refine T.seq ?_ | refine T.region ?_ | (refine TL.isBox ?_; (refine TL.box rfl rfl rfl ?_; intro bk w' hg hbk hsz hsz')) | (refine TL.isAlloc ?_; (refine TL.alloc rfl rfl ?_; intro bk w' hg hbk hsz hsz')))
 refine T.mono (Q := fun x e' v => ∃ bn1 bn2 bn3, Sub [(4, .pointer (some ⟨bk, 0, none⟩)), (5, .pointer (some ⟨bn1, 0, none⟩)), (6, .pointer (some ⟨bn2, 0, none⟩)), (7, .pointer (some ⟨bn3, 0, none⟩))] e' ∧ (Blk v bn3 63 [W1 1, W1 0, W1 0, W1 0, W1 0] ∧ Blk v bn2 66 [W1 (q0 E), W1 (q1 E), W1 (q2 E), W1 (q3 E)] ∧ Blk v bn1 63 [W1 (l0 N), W1 (l1 N), W1 (l2 N), W1 (l3 N), W1 (l4 N)] ∧ Blk v bk 23 zeros ∧ Grow w v) ∧ (bn2 ≠ bn1 ∧ bn3 ≠ bn1 ∧ bn3 ≠ bn2 ∧ bn1 ≠ bk ∧ bn2 ≠ bk ∧ bn3 ≠ bk) ∧ (w.heap.size ≤ bn1 ∧ w.heap.size ≤ bn2 ∧ w.heap.size ≤ bn3) ∧ x = .normal) ?_ ?_
 ·apply T.anyF 8 4 2 12 (.agg #[W1 1, W1 0, W1 0, W1 0, W1 0]) [is _, is _, is _, is _, is (.agg #[W1 1, W1 0, W1 0, W1 0, W1 0]), newB 63 [W1 0, W1 0, W1 0, W1 0, W1 0], newB 66 [W1 0, W1 0, W1 0, W1 0], newB 63 [W1 0, W1 0, W1 0, W1 0, W1 0]] (by kernel_rfl) rfl rfl
  ·(repeat' (first | exact allDo_end | refine allDo_cons ?_ ?_))
   iterate 5 (· ((refine does_mk0 rfl rfl rfl ?_); ( intro wq _ _ hgq; (repeat (refine need_cons rfl rfl ?_; intro vq hvq; try (obtain rfl := hvq))); (refine need_nil ?_)); (repeat (first | (refine TL.isLoad ?_; refine TL.loadW rfl yB (by exact rfl) rfl ?_) | refine TL.nil ?_ | refine TL.buildArr rfl rfl rfl ?_ | (refine TL.call rfl (load_c _ (by assumption) _) rfl ?_; rintro _ _ ⟨rfl, hgc⟩) | (refine TL.call rfl (quarters_c _ _) rfl ?_; rintro _ _ ⟨rfl, hgc⟩))); exact one_end rfl yG rfl))
   iterate 3 (· ((refine does_mk0 rfl rfl rfl ?_); ( intro wq _ _ hgq; (repeat (refine need_cons rfl rfl ?_; intro vq hvq; try (obtain rfl := hvq))); (refine need_nil ?_)); (repeat (first | refine TL.nil ?_ | (refine TL.isAlloc ?_; (refine TL.alloc rfl rfl ?_; intro bk w' hg hbk hsz hsz')))); exact one_end rfl yG ⟨_, rfl, by omega, by omega, by assumption⟩))
  ·rintro v _ _ hgr hspan hdj
   ((repeat (refine need_cons rfl rfl ?_; intro vq hvq; try (obtain rfl := hvq))); (refine need_nil ?_))
   obtain ⟨bn3, rfl, hl3, hh3, hnb3⟩ := hvq
   obtain ⟨bn2, rfl, hl2, hh2, hnb2⟩ := hvq
   obtain ⟨bn1, rfl, hl1, hh1, hnb1⟩ := hvq
   simp only [Nat.reduceAdd] at hl1 hh1 hl2 hh2 hl3 hh3
   have d21 : bn2 ≠ bn1 := by have hz := hdj 6 5 (by omega) (by omega) (by omega) (by omega) (by omega); omega
   have d31 : bn3 ≠ bn1 := by have hz := hdj 7 5 (by omega) (by omega) (by omega) (by omega) (by omega); omega
   have d32 : bn3 ≠ bn2 := by have hz := hdj 7 6 (by omega) (by omega) (by omega) (by omega) (by omega); omega
   have s1 := hspan 5 (by omega) (by omega)
   have s2 := hspan 6 (by omega) (by omega)
   have s3 := hspan 7 (by omega) (by omega)
   have g1 : bn1 ≠ bk := by omega
   have g2 : bn2 ≠ bk := by omega
   have g3 : bn3 ≠ bk := by omega
   refine ⟨by (repeat (first | refine TL.nil ?_ | refine TL.buildArr rfl rfl rfl ?_)); exact ⟨rfl, rfl⟩, ?_, _, rfl, ?_⟩
   ·repeat (first | refine TL.nil ?_ | (refine TL.isStore ?_; (refine TL.storeWh rfl rfl yB (by exact rfl) (by exact rfl) (by exact rfl) ?_; intro w' hu hbk hsz)))
    exact ⟨bn1, bn2, bn3, ⟨rfl, rfl, rfl, rfl, trivial⟩, ⟨yB, yB, yB, yB, yG⟩, ⟨d21, d31, d32, g1, g2, g3⟩, ⟨by omega, by omega, by omega⟩, rfl⟩
   ·repeat (first | refine TL.nil ?_ | (refine TL.isStore ?_; (refine TL.storeWh rfl rfl yB (by exact rfl) (by exact rfl) (by exact rfl) ?_; intro w' hu hbk hsz)))
    refine ⟨by (repeat (first | refine TL.nil ?_ | refine TL.buildArr rfl rfl rfl ?_)); exact ⟨rfl, rfl⟩, ?_, _, rfl, ?_⟩
    ·repeat (first | refine TL.nil ?_ | (refine TL.isStore ?_; (refine TL.storeWh rfl rfl yB (by exact rfl) (by exact rfl) (by exact rfl) ?_; intro w' hu hbk hsz)))
     exact ⟨bn1, bn2, bn3, ⟨rfl, rfl, rfl, rfl, trivial⟩, ⟨yB, yB, yB, yB, yG⟩, ⟨d21, d31, d32, g1, g2, g3⟩, ⟨by omega, by omega, by omega⟩, rfl⟩
    ·repeat (first | refine TL.nil ?_ | (refine TL.isStore ?_; (refine TL.storeWh rfl rfl yB (by exact rfl) (by exact rfl) (by exact rfl) ?_; intro w' hu hbk hsz)))
     refine ⟨by (repeat (first | refine TL.nil ?_ | refine TL.buildArr rfl rfl rfl ?_)); exact ⟨rfl, rfl⟩, ?_⟩
     repeat (first | refine TL.nil ?_ | (refine TL.isStore ?_; (refine TL.storeWh rfl rfl yB (by exact rfl) (by exact rfl) (by exact rfl) ?_; intro w' hu hbk hsz)))
     exact ⟨bn1, bn2, bn3, ⟨rfl, rfl, rfl, rfl, trivial⟩, ⟨yB, yB, yB, yB, yG⟩, ⟨d21, d31, d32, g1, g2, g3⟩, ⟨by omega, by omega, by omega⟩, rfl⟩
 rintro x e' w' ⟨bn1, bn2, bn3, hsub, ⟨c3, c2, c1, cr, hG⟩, ⟨d21, d31, d32, hb1, hb2, hb3⟩, ⟨i1, i2, i3⟩, rfl⟩
 generalize l0 N = x0 at *
 generalize l1 N = x1 at *
 generalize l2 N = x2 at *
 generalize l3 N = x3 at *
 generalize l4 N = x4 at *
 refine thenQ_normal ?_
 refine T.weaken (e' := [(4, _), (5, _), (6, _), (7, _)]) ?_ hsub
 repeat (first | (refine TL.isMove ?_; refine TL.pure rfl rfl ?_) | refine TL.nil ?_ | refine thenQ_normal ?_ | refine T.seq ?_ | refine T.region ?_ | refine T.block ?_)
 refine T.loop (S := Nat) (fun k => [(13, .int .i64 (k : Int)), (7, .pointer (some ⟨bn3, 0, none⟩)), (6, .pointer (some ⟨bn2, 0, none⟩)), (5, .pointer (some ⟨bn1, 0, none⟩)), (4, .pointer (some ⟨bk, 0, none⟩))])
  (fun k v => k ≤ 256 ∧ (∃ r0 r1 r2 r3 r4, Blk v bn3 63 [W1 r0, W1 r1, W1 r2, W1 r3, W1 r4] ∧ (r0 < 4503599627370496 ∧ r1 < 4503599627370496 ∧ r2 < 4503599627370496 ∧ r3 < 4503599627370496 ∧ r4 < 4503599627370496) ∧ V5 r0 r1 r2 r3 r4 % p25519 = N ^ used E k % p25519)
   ∧ Blk v bn2 66 [W1 (q0 (E * 2 ^ k)), W1 (q1 (E * 2 ^ k)), W1 (q2 (E * 2 ^ k)), W1 (q3 (E * 2 ^ k))] ∧ Blk v bn1 63 [W1 x0, W1 x1, W1 x2, W1 x3, W1 x4] ∧ Blk v bk 23 zeros ∧ Grow w v) (fun k => 256 - k) 0 ⟨rfl, rfl, rfl, rfl, rfl, trivial⟩
  ⟨by omega, ⟨1, 0, 0, 0, 0, c3, by omega, by rw [used_0 hE]; rfl⟩, by rw [Nat.pow_zero, Nat.mul_one]; exact c2, c1, cr, hG⟩ ?_
 clear c3 c2 c1 cr hG
 rintro k v ⟨hk, ⟨r0, r1, r2, r3, r4, m3, ⟨e0, e1, e2, e3, e4⟩, hv⟩, m2, m1, mr, hG⟩
 have n1 := m1.lt
 have n2 := m2.lt
 have n3 := m3.lt
 have n4 := mr.lt
 rcases Nat.lt_or_ge k 256 with hlt | hge
 ·refine T.seq ?_
  refine T.region ?_
  refine TL.pure rfl rfl ?_
  refine TL.nil ?_
  refine thenQ_normal ?_
  refine T.seq ?_
  refine T.cond_yes rfl (by simp only [decide_eq_true_eq, decide_eq_false_iff_not]; omega) ?_
  repeat (first | refine thenQ_normal ?_ | refine T.seq ?_ | refine T.region ?_ | refine T.block ?_ | refine T.skip ?_)
  refine TL.call rfl (product_c _ _ _ _ _ _ _ _ _ _ _ _ _ m3 m3 (by omega) (by omega) (by omega) (by omega) (by omega) (by omega) (by omega) (by omega) (by omega) (by omega)) rfl ?_
  rintro _ v1 ⟨s0, s1, s2, s3, s4, rfl, ⟨⟨d0, d1, d2, d3, d4⟩, hv1⟩, hg1⟩
  have hs := sq_mod hv hv1
  repeat (first | refine TL.load1 rfl yM rfl ?_ | (refine TL.isIndex ?_; refine TL.indexArr rfl rfl (by omega) rfl rfl ?_) | refine TL.nil ?_ | refine thenQ_normal ?_ | refine T.seq ?_ | refine T.region ?_ | refine TL.shrU rfl rfl rfl rfl rfl rfl ?_ | (refine TL.isBin ?_; refine TL.pure rfl rfl ?_) | (refine TL.isStore ?_; (refine TL.storeWh rfl rfl yB (by exact rfl) (by exact rfl) (by exact rfl) ?_; intro w' hu hbk hsz)))
  have c3 : Blk w' bn3 63 [W1 s0, W1 s1, W1 s2, W1 s3, W1 s4] := hbk
  have c2 : Blk w' bn2 66 [W1 (q0 (E * 2 ^ k)), W1 (q1 (E * 2 ^ k)), W1 (q2 (E * 2 ^ k)), W1 (q3 (E * 2 ^ k))] := by exact yB
  have c1 : Blk w' bn1 63 [W1 x0, W1 x1, W1 x2, W1 x3, W1 x4] := by exact yB
  have cr : Blk w' bk 23 zeros := by exact yB
  have cG : Grow w w' := by exact yG
  have o1 := c1.lt
  have o2 := c2.lt
  have o3 := c3.lt
  have o4 := cr.lt
  have hE2 : E * 2 ^ (k + 1) = 2 * (E * 2 ^ k) := by rw [Nat.pow_succ, ← Nat.mul_assoc, Nat.mul_comm]
  have hus := used_succ (E := E) hlt
  have hbit := bit_q3 (E * 2 ^ k)
  rcases Nat.mod_two_eq_zero_or_one (E * 2 ^ k / 57896044618658097711785492504343953926634992332820282019728792003956564819968) with hb | hb
  ·rw [hb] at hus hbit
   refine T.cond_no rfl (by rw [hbit]; rfl) ?_
   have ht : V5 s0 s1 s2 s3 s4 % p25519 = N ^ used E (k + 1) % p25519 := by rw [hus]; exact hs
   obtain ⟨t0, ht0⟩ : ∃ t, t = s0 := ⟨_, rfl⟩
   obtain ⟨t1, ht1⟩ : ∃ t, t = s1 := ⟨_, rfl⟩
   obtain ⟨t2, ht2⟩ : ∃ t, t = s2 := ⟨_, rfl⟩
   obtain ⟨t3, ht3⟩ : ∃ t, t = s3 := ⟨_, rfl⟩
   obtain ⟨t4, ht4⟩ : ∃ t, t = s4 := ⟨_, rfl⟩
   subst ht0 ht1 ht2 ht3 ht4
   repeat (first | (refine TL.isLoad ?_; refine TL.loadW rfl yB (by exact rfl) rfl ?_) | refine thenQ_normal ?_ | refine T.region ?_ | refine T.skip ?_)
   refine TL.call rfl (shifted_c _ _) rfl ?_
   rintro _ v5 ⟨rfl, hg5⟩
   have f3 : Blk v5 bn3 63 [W1 t0, W1 t1, W1 t2, W1 t3, W1 t4] := by exact yB
   have f1 : Blk v5 bn1 63 [W1 x0, W1 x1, W1 x2, W1 x3, W1 x4] := by exact yB
   have f2 : Blk v5 bn2 66 [W1 (q0 (E * 2 ^ k)), W1 (q1 (E * 2 ^ k)), W1 (q2 (E * 2 ^ k)), W1 (q3 (E * 2 ^ k))] := by exact yB
   have fr : Blk v5 bk 23 zeros := by exact yB
   have fG : Grow w v5 := by exact yG
   repeat (first | (refine TL.isMove ?_; refine TL.pure rfl rfl ?_) | (refine TL.isAdd ?_; refine TL.addI rfl rfl (by omega) (by omega) rfl ?_) | refine TL.nil ?_ | refine thenQ_normal ?_ | refine T.region ?_ | refine blockQ_normal ?_ | (refine TL.isStore ?_; (refine TL.storeWh rfl rfl yB (by exact rfl) (by exact rfl) (by exact rfl) ?_; intro w' hu hbk hsz)))
   exact loopQ_normal (k + 1) ⟨rfl, rfl, rfl, rfl, rfl, trivial⟩ ⟨by omega, ⟨t0, t1, t2, t3, t4, yB, by omega, ht⟩, by rw [hE2]; exact hbk, yB, yB, yG⟩ (by omega)
  ·rw [hb] at hus hbit
   refine T.cond_yes rfl (by rw [hbit]; rfl) ?_
   repeat (refine T.region ?_)
   refine TL.call rfl (product_c _ _ _ _ _ _ _ _ _ _ _ _ _ c3 c1 (by omega) (by omega) (by omega) (by omega) (by omega) (by omega) (by omega) (by omega) (by omega) (by omega)) rfl ?_
   rintro _ v3 ⟨t0, t1, t2, t3, t4, rfl, ⟨⟨d0', d1', d2', d3', d4'⟩, hv3⟩, hg3⟩
   have ht : V5 t0 t1 t2 t3 t4 % p25519 = N ^ used E (k + 1) % p25519 := by rw [hus]; rw [hx] at hv3; exact mul1_mod hs hv3
   have c2' : Blk v3 bn2 66 [W1 (q0 (E * 2 ^ k)), W1 (q1 (E * 2 ^ k)), W1 (q2 (E * 2 ^ k)), W1 (q3 (E * 2 ^ k))] := by exact yB
   have c1' : Blk v3 bn1 63 [W1 x0, W1 x1, W1 x2, W1 x3, W1 x4] := by exact yB
   have cr' : Blk v3 bk 23 zeros := by exact yB
   have c3' : Blk v3 bn3 63 [W1 s0, W1 s1, W1 s2, W1 s3, W1 s4] := by exact yB
   have cG' : Grow w v3 := by exact yG
   repeat (first | (refine TL.isLoad ?_; refine TL.loadW rfl yB (by exact rfl) rfl ?_) | refine TL.nil ?_ | refine thenQ_normal ?_ | refine T.region ?_ | (refine TL.isStore ?_; (refine TL.storeWh rfl rfl yB (by exact rfl) (by exact rfl) (by exact rfl) ?_; intro w' hu hbk hsz)))
   refine TL.call rfl (shifted_c _ _) rfl ?_
   rintro _ v5 ⟨rfl, hg5⟩
   have f3 : Blk v5 bn3 63 [W1 t0, W1 t1, W1 t2, W1 t3, W1 t4] := by exact yB
   have f1 : Blk v5 bn1 63 [W1 x0, W1 x1, W1 x2, W1 x3, W1 x4] := by exact yB
   have f2 : Blk v5 bn2 66 [W1 (q0 (E * 2 ^ k)), W1 (q1 (E * 2 ^ k)), W1 (q2 (E * 2 ^ k)), W1 (q3 (E * 2 ^ k))] := by exact yB
   have fr : Blk v5 bk 23 zeros := by exact yB
   have fG : Grow w v5 := by exact yG
   repeat (first | (refine TL.isMove ?_; refine TL.pure rfl rfl ?_) | (refine TL.isAdd ?_; refine TL.addI rfl rfl (by omega) (by omega) rfl ?_) | refine TL.nil ?_ | refine thenQ_normal ?_ | refine T.region ?_ | refine blockQ_normal ?_ | (refine TL.isStore ?_; (refine TL.storeWh rfl rfl yB (by exact rfl) (by exact rfl) (by exact rfl) ?_; intro w' hu hbk hsz)))
   exact loopQ_normal (k + 1) ⟨rfl, rfl, rfl, rfl, rfl, trivial⟩ ⟨by omega, ⟨t0, t1, t2, t3, t4, yB, by omega, ht⟩, by rw [hE2]; exact hbk, yB, yB, yG⟩ (by omega)
 ·refine T.seq ?_
  refine T.region ?_
  refine TL.pure rfl rfl ?_
  refine TL.nil ?_
  refine thenQ_normal ?_
  refine T.seq ?_
  refine T.cond_no rfl (by simp only [decide_eq_true_eq, decide_eq_false_iff_not]; omega) ?_
  repeat (first | (refine TL.isLoad ?_; refine TL.loadW rfl yB (by exact rfl) rfl ?_) | refine thenQ_normal ?_ | refine T.seq ?_ | refine T.region ?_ | refine T.exit ?_ | refine thenQ_exit ?_ | refine blockQ_hit ?_ | refine loopQ_exit ?_)
  refine TL.call rfl (store_c _ _ _ _ _ (by omega) (by omega) (by omega) (by omega) (by omega) _) rfl ?_
  rintro _ w5 ⟨rfl, hg5⟩
  have hk6 : k = 256 := by omega
  subst hk6
  rw [hv, used_256, show N ^ E % p25519 = pw N E from rfl]
  repeat (first | refine TL.nil ?_ | refine thenQ_normal ?_ | (refine TL.isStore ?_; (refine TL.storeWh rfl rfl yB (by exact rfl) (by exact rfl) (by exact rfl) ?_; intro w' hu hbk hsz)) | refine T.ret ?_)
  exact retC rfl (load_whole (by assumption) rfl) ⟨_, rfl, rfl, yG⟩
theorem pw_def (N E : Nat) : pw N E = N ^ E % p25519 := rfl
theorem pw_big (a e : Nat) : pw a e < 115792089237316195423570985008687907853269984665640564039457584007913129639936 :=
 Nat.lt_trans (Nat.mod_lt _ (by decide)) (by decide)
theorem pw_lt (a e : Nat) : pw a e < p25519 := Nat.mod_lt _ (by decide)
attribute [irreducible] pw
end Go.Proofs.Ytmpjigghgedjbaa
namespace Go.Proofs.Ytmpjigghgedjbaa
open Go Go.RowKit Go.V
theorem b8_inj {x y : Nat} (hx : x < 18446744073709551616) (hy : y < 18446744073709551616) (h : b8 x = b8 y) : x = y := by
 simp only [b8, List.cons.injEq, B1, Value.int.injEq, Int.natCast_inj, true_and, and_true] at h
 omega
theorem num_inj {a b : Nat} (ha : a < 115792089237316195423570985008687907853269984665640564039457584007913129639936) (hb : b < 115792089237316195423570985008687907853269984665640564039457584007913129639936) (h : numL a = numL b) : a = b := by
 unfold numL at h
 obtain ⟨h0, h⟩ := List.append_inj h rfl
 obtain ⟨h1, h⟩ := List.append_inj h rfl
 obtain ⟨h2, h3⟩ := List.append_inj h rfl
 have e0 := b8_inj (q0_lt a) (q0_lt b) h0
 have e1 := b8_inj (q1_lt a) (q1_lt b) h1
 have e2 := b8_inj (q2_lt a) (q2_lt b) h2
 have e3 := b8_inj (q3_lt a) (q3_lt b) h3
 unfold q0 at e0; unfold q1 at e1; unfold q2 at e2; unfold q3 at e3
 omega
theorem num_dec {a b : Nat} (ha : a < 115792089237316195423570985008687907853269984665640564039457584007913129639936) (hb : b < 115792089237316195423570985008687907853269984665640564039457584007913129639936) : decide (a = b) = true ↔ numL a = numL b := by
 rw [decide_eq_true_eq]
 exact ⟨fun h => by rw [h], num_inj ha hb⟩
theorem mod_big (a : Nat) : a % p25519 < 115792089237316195423570985008687907853269984665640564039457584007913129639936 :=
 Nat.lt_trans (Nat.mod_lt _ (by decide)) (by decide)
theorem canon_c (N : Nat) (hN : N < 115792089237316195423570985008687907853269984665640564039457584007913129639936) (w : World) :
  Calls Try.prog 24 #[num N] w (Ret fun v w' => v = .bool (decide (N % p25519 = N)) ∧ Grow w w') := by
 refine V.calls (args := [_]) Try.func24 rfl Try.ntmps24 rfl rfl ?_
 repeat (first | (refine TL.isAsg ?_; refine TL.pure rfl rfl ?_) | refine TL.nil ?_ | refine thenQ_normal ?_ | refine T.seq ?_ | refine T.region ?_ | (refine TL.isBox ?_; (refine TL.box rfl rfl rfl ?_; intro bk w' hg hbk hsz hsz')))
 apply T.any 4 [is _, is _, is _, is _]; (· kernel_rfl); (· ((repeat' (first | exact allDo_end | refine allDo_cons ?_ ?_)); (iterate 4 (· ((refine does_mk0 rfl rfl rfl ?_); ( intro wq _ _ hgq; (repeat (refine need_cons rfl rfl ?_; intro vq hvq; try (obtain rfl := hvq))); (refine need_nil ?_)); (repeat (first | (refine TL.isLoad ?_; refine TL.loadW rfl yB (by exact rfl) rfl ?_) | refine TL.nil ?_ | (refine TL.call rfl (rest_c _ (by assumption) _) rfl ?_; rintro _ _ ⟨rfl, hgc⟩) | (refine TL.eqArr (xs := numL _) (ys := numL _) (decide (N % p25519 = N)) rfl rfl rfl (by trivial) rfl (num_dec (mod_big _) hN) rfl ?_))); exact one_end rfl yG rfl))))); (rintro _ _ _ hgr _ _; (repeat (refine need_cons rfl rfl ?_; intro vq hvq; try (obtain rfl := hvq))); (refine need_nil ?_))
 repeat (first | (refine TL.isAsg ?_; refine TL.pure rfl rfl ?_) | refine TL.nil ?_ | refine thenQ_normal ?_ | refine T.ret ?_)
 exact ret1 rfl ⟨_, rfl, rfl, yG⟩
theorem same_c (N M : Nat) (hN : N < 115792089237316195423570985008687907853269984665640564039457584007913129639936) (hM : M < 115792089237316195423570985008687907853269984665640564039457584007913129639936) (w : World) :
  Calls Try.prog 25 #[num N, num M] w (Ret fun v w' => v = .bool (decide (N % p25519 = M % p25519)) ∧ Grow w w') := by
 refine V.calls (args := [_, _]) Try.func25 rfl Try.ntmps25 rfl rfl ?_
 repeat (first | (refine TL.isAsg ?_; refine TL.pure rfl rfl ?_) | refine TL.nil ?_ | refine thenQ_normal ?_ | refine T.seq ?_ | refine T.region ?_ | (refine TL.isBox ?_; (refine TL.box rfl rfl rfl ?_; intro bk w' hg hbk hsz hsz')))
 apply T.any 5 [is _, is _, is _, is _, is _]; (· kernel_rfl); (· ((repeat' (first | exact allDo_end | refine allDo_cons ?_ ?_)); (iterate 5 (· ((refine does_mk0 rfl rfl rfl ?_); ( intro wq _ _ hgq; (repeat (refine need_cons rfl rfl ?_; intro vq hvq; try (obtain rfl := hvq))); (refine need_nil ?_)); (repeat (first | (refine TL.isLoad ?_; refine TL.loadW rfl yB (by exact rfl) rfl ?_) | refine TL.nil ?_ | (refine TL.call rfl (rest_c _ (by assumption) _) rfl ?_; rintro _ _ ⟨rfl, hgc⟩) | (refine TL.eqArr (xs := numL _) (ys := numL _) (decide (N % p25519 = M % p25519)) rfl rfl rfl (by trivial) rfl (num_dec (mod_big _) (mod_big _)) rfl ?_))); exact one_end rfl yG rfl))))); (rintro _ _ _ hgr _ _; (repeat (refine need_cons rfl rfl ?_; intro vq hvq; try (obtain rfl := hvq))); (refine need_nil ?_))
 repeat (first | (refine TL.isAsg ?_; refine TL.pure rfl rfl ?_) | refine TL.nil ?_ | refine thenQ_normal ?_ | refine T.ret ?_)
 exact ret1 rfl ⟨_, rfl, rfl, yG⟩
theorem odd_c (N : Nat) (hN : N < 115792089237316195423570985008687907853269984665640564039457584007913129639936) (w : World) :
  Calls Try.prog 23 #[num N] w (Ret fun v w' => v = .bool (decide (N % p25519 % 2 = 1)) ∧ Grow w w') := by
 refine V.calls (args := [_]) Try.func23 rfl Try.ntmps23 rfl rfl ?_
 repeat (first | (refine TL.isAsg ?_; refine TL.pure rfl rfl ?_) | (refine TL.isLoad ?_; refine TL.loadW rfl yB (by exact rfl) rfl ?_) | refine TL.nil ?_ | refine thenQ_normal ?_ | refine T.seq ?_ | refine T.region ?_ | (refine TL.isBox ?_; (refine TL.box rfl rfl rfl ?_; intro bk w' hg hbk hsz hsz')))
 refine TL.call rfl (rest_c _ hN _) rfl ?_
 rintro _ _ ⟨rfl, hgc⟩
 refine TL.indexV (cs := numL (N % p25519)) rfl rfl (by omega) rfl rfl rfl ?_
 have hb : q0 (N % p25519) % 256 % 2 = N % p25519 % 2 := by unfold q0; omega
 repeat (first | (refine TL.isAsg ?_; refine TL.pure rfl rfl ?_) | (refine TL.isAnd ?_; refine TL.andU rfl rfl rfl rfl (by omega) (by omega) rfl ?_) | refine TL.nil ?_ | refine thenQ_normal ?_ | (refine TL.isBin ?_; refine TL.pure rfl rfl ?_) | refine T.ret ?_)
 have e : (((q0 (N % p25519) % 256 % 2 : Nat) : Int) == 1) = decide (N % p25519 % 2 = 1) := by
  rw [hb]
  rcases Nat.mod_two_eq_zero_or_one (N % p25519) with h | h <;> rw [h] <;> rfl
 exact ret1 rfl ⟨_, rfl, by rw [← e], yG⟩
def onesL (k : Nat) : List Value := List.replicate k (Value.int .u8 255) ++ List.replicate (32 - k) (Value.int .u8 0)
theorem onesL_set {k : Nat} (hk : k < 32) : (onesL k).set (0 + k * 1) (Value.int .u8 255) = onesL (k + 1) := by
 unfold onesL
 rw [Nat.zero_add, Nat.mul_one, List.set_append_right _ _ (by simp)]
 have h : 32 - k = (32 - (k + 1)) + 1 := by omega
 rw [h, List.replicate_succ, List.length_replicate, Nat.sub_self, List.set_cons_zero, List.replicate_succ', List.append_assoc]
 rfl
theorem onesL_len {k : Nat} (hk : k < 32) : Nat.blt (0 + k * 1) (onesL k).length = true := by
 unfold onesL
 simp [Nat.blt]
 omega
theorem ones_c (a b : Nat) (w : World) :
  Calls Try.prog 66 #[B1 a, B1 b] w (Ret fun v w' => v = .agg (((onesL 32).set 0 (B1 a)).set 31 (B1 b)).toArray ∧ Grow w w') := by
 refine V.calls (args := [_, _]) Try.func66 rfl Try.ntmps66 rfl rfl ?_
 repeat (first | (refine TL.isMove ?_; refine TL.pure rfl rfl ?_) | refine TL.nil ?_ | refine thenQ_normal ?_ | refine T.seq ?_ | refine T.region ?_ | refine T.block ?_ | (refine TL.isAlloc ?_; (refine TL.alloc rfl rfl ?_; intro bk w' hg hbk hsz hsz')))
 rename_i b1 w1 g1 k1 s1 t1
 have hbn1 : b1 ≠ bk := by omega
 have c1 : Blk w' b1 23 zeros := by exact yB
 have c2 : Blk w' bk 23 (onesL 0) := hbk
 have hG : Grow w w' := by exact yG
 have hw1 : w.heap.size ≤ b1 := by omega
 have hw2 : w.heap.size ≤ bk := by omega
 refine T.loop (S := Nat) (fun k => [(7, .int .i64 (k : Int)), (5, .pointer (some ⟨bk, 0, none⟩)), (4, .pointer (some ⟨b1, 0, none⟩)), (0, B1 a), (1, B1 b)])
  (fun k v => k ≤ 32 ∧ Blk v bk 23 (onesL k) ∧ Blk v b1 23 zeros ∧ Grow w v) (fun k => 32 - k) 0 ⟨rfl, rfl, rfl, rfl, rfl, trivial⟩ ⟨by omega, c2, c1, hG⟩ ?_
 clear c1 c2 hbk k1 hG
 rintro k v ⟨hk, m1, m2, hG⟩
 have n1 := m1.lt
 have n2 := m2.lt
 rcases Nat.lt_or_ge k 32 with hlt | hge
 ·refine T.seq ?_
  refine T.region ?_
  refine TL.pure rfl rfl ?_
  refine TL.nil ?_
  refine thenQ_normal ?_
  refine T.seq ?_
  refine T.cond_yes rfl (by simp only [decide_eq_true_eq, decide_eq_false_iff_not]; omega) ?_
  repeat (first | (refine TL.isMove ?_; refine TL.pure rfl rfl ?_) | (refine TL.isAsg ?_; refine TL.pure rfl rfl ?_) | (refine TL.isIndex ?_; refine TL.indexArr rfl rfl (by omega) rfl rfl ?_) | (refine TL.isAdd ?_; refine TL.addI rfl rfl (by omega) (by omega) rfl ?_) | refine TL.nil ?_ | refine thenQ_normal ?_ | refine T.seq ?_ | refine T.region ?_ | refine T.block ?_ | refine blockQ_normal ?_ | refine T.skip ?_ | refine TL.store1 rfl rfl m1 rfl (onesL_len hlt) (onesL_set hlt) ?_; intro w' hu hbk hsz)
  exact loopQ_normal (k + 1) ⟨rfl, rfl, rfl, rfl, rfl, trivial⟩ ⟨by omega, yB, yB, yG⟩ (by omega)
 ·refine T.seq ?_
  refine T.region ?_
  refine TL.pure rfl rfl ?_
  refine TL.nil ?_
  refine thenQ_normal ?_
  refine T.seq ?_
  refine T.cond_no rfl (by simp only [decide_eq_true_eq, decide_eq_false_iff_not]; omega) ?_
  have hk6 : k = 32 := by omega
  subst hk6
  repeat (first | (refine TL.isMove ?_; refine TL.pure rfl rfl ?_) | (refine TL.isLoad ?_; refine TL.loadW rfl yB (by exact rfl) rfl ?_) | (refine TL.isIndex ?_; refine TL.indexArr rfl rfl (by omega) rfl rfl ?_) | refine TL.nil ?_ | refine thenQ_normal ?_ | refine T.seq ?_ | refine T.region ?_ | (refine TL.isStore ?_; first | (refine TL.store1 rfl rfl yB (by exact rfl) (by exact rfl) (by exact rfl) ?_; intro w' hu hbk hsz) | (refine TL.storeWh rfl rfl yB (by exact rfl) (by exact rfl) (by exact rfl) ?_; intro w' hu hbk hsz)) | refine T.ret ?_ | refine T.exit ?_ | refine thenQ_exit ?_ | refine blockQ_hit ?_ | refine loopQ_exit ?_)
  exact retC rfl (load_whole (by assumption) rfl) ⟨_, rfl, rfl, yG⟩
theorem inv_c (N : Nat) (hN : N < 115792089237316195423570985008687907853269984665640564039457584007913129639936) (w : World) :
  Calls Try.prog 16 #[num N] w (Ret fun v w' => v = num (pw N 57896044618658097711785492504343953926634992332820282019728792003956564819947) ∧ Grow w w') := by
 refine V.calls (args := [_]) Try.func16 rfl Try.ntmps16 rfl rfl ?_
 repeat (first | refine TL.nil ?_ | refine thenQ_normal ?_ | refine T.seq ?_ | refine T.region ?_ | (refine TL.isBox ?_; (refine TL.box rfl rfl rfl ?_; intro bk w' hg hbk hsz hsz')) | (refine TL.isAlloc ?_; (refine TL.alloc rfl rfl ?_; intro bk w' hg hbk hsz hsz')))
 apply T.any 3 [is _, is _, is _]; (· kernel_rfl); (· ((repeat' (first | exact allDo_end | refine allDo_cons ?_ ?_)); (iterate 3 (· ((refine does_mk0 rfl rfl rfl ?_); ( intro wq _ _ hgq; (repeat (refine need_cons rfl rfl ?_; intro vq hvq; try (obtain rfl := hvq))); (refine need_nil ?_)); (repeat (first | (refine TL.isLoad ?_; refine TL.loadW rfl yB (by exact rfl) rfl ?_) | refine TL.nil ?_ | (refine TL.call rfl (ones_c 235 127 _) rfl ?_; rintro _ _ ⟨rfl, hgc⟩) | (refine TL.call rfl (pow_c N 57896044618658097711785492504343953926634992332820282019728792003956564819947 hN (by decide) _) rfl ?_; rintro _ _ ⟨rfl, hgc⟩))); exact one_end rfl yG rfl))))); (rintro _ _ _ hgr _ _; (repeat (refine need_cons rfl rfl ?_; intro vq hvq; try (obtain rfl := hvq))); (refine need_nil ?_))
 repeat (first | refine TL.nil ?_ | refine thenQ_normal ?_ | (refine TL.isStore ?_; (refine TL.storeWh rfl rfl yB (by exact rfl) (by exact rfl) (by exact rfl) ?_; intro w' hu hbk hsz)) | refine T.ret ?_)
 exact retC rfl (load_whole (by assumption) rfl) ⟨_, rfl, rfl, yG⟩
end Go.Proofs.Ytmpjigghgedjbaa
namespace Go.Proofs.Ytmpjigghgedjbaa
open Go Go.RowKit Go.V
def rootA (N : Nat) : Nat := pw N 7237005577332262213973186563042994240829374041602535252466099000494570602494
def rootB (N : Nat) : Nat := if rootA N * rootA N % p25519 % p25519 = N % p25519 then rootA N else rootA N * pw 2 14474011154664524427946373126085988481658748083205070504932198000989141204987 % p25519
def hasRoot (N : Nat) : Prop := rootB N * rootB N % p25519 % p25519 = N % p25519
instance (N : Nat) : Decidable (hasRoot N) := by unfold hasRoot; exact inferInstance
def rootC (N : Nat) : Nat := if hasRoot N then (if rootB N % p25519 % 2 = 1 then (p25519 - rootB N % p25519) % p25519 else rootB N) else 0
theorem rootA_big (N : Nat) : rootA N < 115792089237316195423570985008687907853269984665640564039457584007913129639936 := pw_big _ _
theorem rootB_big (N : Nat) : rootB N < 115792089237316195423570985008687907853269984665640564039457584007913129639936 := by
 unfold rootB
 split
 ·exact pw_big _ _
 ·exact mod_big _
theorem root_c (N : Nat) (hN : N < 115792089237316195423570985008687907853269984665640564039457584007913129639936) (w : World) :
  Calls Try.prog 22 #[num N] w (Ret fun v w' => v = .tuple #[num (rootC N), .bool (decide (hasRoot N))] ∧ Grow w w') := by
 refine V.calls (args := [_]) Try.func22 rfl Try.ntmps22 rfl rfl ?_
 repeat (first | (refine TL.isAsg ?_; refine TL.pure rfl rfl ?_) | refine TL.nil ?_ | refine thenQ_normal ?_ | refine T.seq ?_ | refine T.region ?_ | (refine TL.isBox ?_; (refine TL.box rfl rfl rfl ?_; intro bk w' hg hbk hsz hsz')) | (refine TL.isAlloc ?_; (refine TL.alloc rfl rfl ?_; intro bk w' hg hbk hsz hsz')))
 rename_i b1 w1 g1 k1 s1 t1
 have hA := rootA_big N
 apply T.any 4 [is _, is _, is _, newB 23 zeros]; (· kernel_rfl); (· ((repeat' (first | exact allDo_end | refine allDo_cons ?_ ?_)); (iterate 3 (· ((refine does_mk0 rfl rfl rfl ?_); ( intro wq _ _ hgq; (repeat (refine need_cons rfl rfl ?_; intro vq hvq; try (obtain rfl := hvq))); (refine need_nil ?_)); (repeat (first | (refine TL.isLoad ?_; refine TL.loadW rfl yB (by exact rfl) rfl ?_) | refine TL.nil ?_ | (refine TL.call rfl (ones_c 254 15 _) rfl ?_; rintro _ _ ⟨rfl, hgc⟩) | (refine TL.call rfl (pow_c N 7237005577332262213973186563042994240829374041602535252466099000494570602494 hN (by decide) _) rfl ?_; rintro _ _ ⟨rfl, hgc⟩))); exact one_end rfl yG rfl))); ((refine does_mk0 rfl rfl rfl ?_); ( intro wq _ _ hgq; (repeat (refine need_cons rfl rfl ?_; intro vq hvq; try (obtain rfl := hvq))); (refine need_nil ?_)); (repeat (first | refine TL.nil ?_ | (refine TL.isAlloc ?_; (refine TL.alloc rfl rfl ?_; intro bk w' hg hbk hsz hsz')))); exact one_end rfl yG ⟨_, rfl, by omega, by omega, by assumption⟩))); (rintro _ _ _ hgr hspan _; (repeat (refine need_cons rfl rfl ?_; intro vq hvq; try (obtain rfl := hvq))); (refine need_nil ?_); obtain ⟨bn, rfl, hn1, hn2, hnb⟩ := hvq; have hsp := hspan 3 (by omega); replace hn1 := Nat.le_trans hsp.1 hn1; replace hn2 := Nat.lt_of_lt_of_le hn2 hsp.2.2; clear hspan hsp)
 have hm1 : bn ≠ bk := by omega
 have hm2 : bn ≠ b1 := by omega
 have hm3 : bk ≠ b1 := by omega
 repeat (first | refine TL.nil ?_ | refine thenQ_normal ?_ | refine T.seq ?_ | (refine TL.isStore ?_; (refine TL.storeWh rfl rfl yB (by exact rfl) (by exact rfl) (by exact rfl) ?_; intro w' hu hbk hsz)))
 have c1 : Blk w' b1 23 (numL N) := by exact yB
 have c2 : Blk w' bk 23 zeros := by exact yB
 have c3 : Blk w' bn 23 (numL (rootA N)) := hbk
 have hG : Grow w w' := by exact yG
 have f1 : w.heap.size ≤ b1 := by omega
 have f2 : w.heap.size ≤ bk := by omega
 have f3 : w.heap.size ≤ bn := by omega
 have n1 := c1.lt
 have n2 := c2.lt
 have n3 := c3.lt
 apply T.any 5 [is _, is _, is _, is _, is _]; (· kernel_rfl); (· ((repeat' (first | exact allDo_end | refine allDo_cons ?_ ?_)); (iterate 5 (· ((refine does_mk0 rfl rfl rfl ?_); ( intro wq _ _ hgq; (repeat (refine need_cons rfl rfl ?_; intro vq hvq; try (obtain rfl := hvq))); (refine need_nil ?_)); (repeat (first | (refine TL.isLoad ?_; refine TL.loadW rfl yB (by exact rfl) rfl ?_) | refine TL.nil ?_ | (refine TL.call rfl (mul_c (rootA N) (rootA N) (by assumption) (by assumption) _) rfl ?_; rintro _ _ ⟨rfl, hgc⟩) | (refine TL.call rfl (same_c (rootA N * rootA N % p25519) N (mod_big _) hN _) rfl ?_; rintro _ _ ⟨rfl, hgc⟩))); exact one_end rfl yG rfl))))); (rintro _ _ _ hgr _ _; (repeat (refine need_cons rfl rfl ?_; intro vq hvq; try (obtain rfl := hvq))); (refine need_nil ?_))
 repeat (first | refine TL.nil ?_ | refine thenQ_normal ?_ | refine TL.pure rfl rfl ?_)
 refine T.mono (Q := fun x e' v => Sub [(1, .pointer (some ⟨b1, 0, none⟩)), (2, .pointer (some ⟨bk, 0, none⟩)), (4, .pointer (some ⟨bn, 0, none⟩))] e' ∧ (Blk v b1 23 (numL N) ∧ Blk v bk 23 zeros ∧ Blk v bn 23 (numL (rootB N)) ∧ Grow w v) ∧ x = .normal) ?_ ?_
 ·by_cases hr : rootA N * rootA N % p25519 % p25519 = N % p25519
  ·refine T.cond_no rfl (by rw [decide_eq_true hr]; rfl) ?_
   have hB : rootB N = rootA N := if_pos hr
   rw [hB]
   repeat (refine T.skip ?_)
   exact ⟨⟨rfl, rfl, rfl, trivial⟩, ⟨yB, yB, yB, yG⟩, rfl⟩
  ·refine T.cond_yes rfl (by rw [decide_eq_false hr]; rfl) ?_
   have hB : rootB N = rootA N * pw 2 14474011154664524427946373126085988481658748083205070504932198000989141204987 % p25519 := if_neg hr
   rw [hB]
   repeat (refine T.seq ?_)
   apply T.any 5 [is _, is _, is _, is _, is _]; (· kernel_rfl); (· ((repeat' (first | exact allDo_end | refine allDo_cons ?_ ?_)); (iterate 5 (· ((refine does_mk0 rfl rfl rfl ?_); ( intro wq _ _ hgq; (repeat (refine need_cons rfl rfl ?_; intro vq hvq; try (obtain rfl := hvq))); (refine need_nil ?_)); (repeat (first | (refine TL.isLoad ?_; refine TL.loadW rfl yB (by exact rfl) rfl ?_) | refine TL.nil ?_ | (refine TL.call rfl (of_c 2 (by decide) _) rfl ?_; rintro _ _ ⟨rfl, hgc⟩) | (refine TL.call rfl (ones_c 251 31 _) rfl ?_; rintro _ _ ⟨rfl, hgc⟩) | (refine TL.call rfl (pow_c 2 14474011154664524427946373126085988481658748083205070504932198000989141204987 (by decide) (by decide) _) rfl ?_; rintro _ _ ⟨rfl, hgc⟩) | (refine TL.call rfl (mul_c (rootA N) (pw 2 14474011154664524427946373126085988481658748083205070504932198000989141204987) (by assumption) (pw_big _ _) _) rfl ?_; rintro _ _ ⟨rfl, hgc⟩))); exact one_end rfl yG rfl))))); (rintro _ _ _ hgr _ _; (repeat (refine need_cons rfl rfl ?_; intro vq hvq; try (obtain rfl := hvq))); (refine need_nil ?_))
   repeat (first | refine TL.nil ?_ | (refine TL.isStore ?_; (refine TL.storeWh rfl rfl yB (by exact rfl) (by exact rfl) (by exact rfl) ?_; intro w' hu hbk hsz)))
   exact ⟨⟨rfl, rfl, rfl, trivial⟩, ⟨yB, yB, yB, yG⟩, rfl⟩
 rintro x e' w3 ⟨hsub, ⟨m1, m2, m3, hG3⟩, rfl⟩
 have hB := rootB_big N
 have o1 := m1.lt
 have o2 := m2.lt
 have o3 := m3.lt
 refine thenQ_normal ?_
 refine T.weaken (e' := [(1, _), (2, _), (4, _)]) ?_ hsub
 repeat (refine T.seq ?_)
 apply T.any 5 [is _, is _, is _, is _, is _]; (· kernel_rfl); (· ((repeat' (first | exact allDo_end | refine allDo_cons ?_ ?_)); (iterate 5 (· ((refine does_mk0 rfl rfl rfl ?_); ( intro wq _ _ hgq; (repeat (refine need_cons rfl rfl ?_; intro vq hvq; try (obtain rfl := hvq))); (refine need_nil ?_)); (repeat (first | (refine TL.isLoad ?_; refine TL.loadW rfl yB (by exact rfl) rfl ?_) | refine TL.nil ?_ | (refine TL.call rfl (mul_c (rootB N) (rootB N) (by assumption) (by assumption) _) rfl ?_; rintro _ _ ⟨rfl, hgc⟩) | (refine TL.call rfl (same_c (rootB N * rootB N % p25519) N (mod_big _) hN _) rfl ?_; rintro _ _ ⟨rfl, hgc⟩))); exact one_end rfl yG rfl))))); (rintro _ _ _ hgr _ _; (repeat (refine need_cons rfl rfl ?_; intro vq hvq; try (obtain rfl := hvq))); (refine need_nil ?_))
 repeat (first | refine TL.nil ?_ | refine thenQ_normal ?_ | refine TL.pure rfl rfl ?_)
 by_cases hr : rootB N * rootB N % p25519 % p25519 = N % p25519
 ·refine T.cond_no rfl (by rw [decide_eq_true hr]; rfl) ?_
  have hR : hasRoot N := hr
  repeat (first | (refine TL.isLoad ?_; refine TL.loadW rfl yB (by exact rfl) rfl ?_) | refine thenQ_normal ?_ | refine T.seq ?_ | refine T.region ?_ | refine T.skip ?_)
  refine TL.call rfl (odd_c _ hB _) rfl ?_
  rintro _ _ ⟨rfl, hgc⟩
  repeat (first | refine TL.nil ?_ | refine thenQ_normal ?_)
  by_cases ho : rootB N % p25519 % 2 = 1
  ·refine T.cond_yes rfl (decide_eq_true ho) ?_
   repeat (first | (refine TL.isLoad ?_; refine TL.loadW rfl yB (by exact rfl) rfl ?_) | refine T.region ?_)
   refine TL.call rfl (neg_c _ hB _) rfl ?_
   rintro _ _ ⟨rfl, hgc⟩
   repeat (first | (refine TL.isAsg ?_; refine TL.pure rfl rfl ?_) | (refine TL.isLoad ?_; refine TL.loadW rfl yB (by exact rfl) rfl ?_) | refine TL.nil ?_ | refine thenQ_normal ?_ | refine T.seq ?_ | refine T.region ?_ | (refine TL.isStore ?_; (refine TL.storeWh rfl rfl yB (by exact rfl) (by exact rfl) (by exact rfl) ?_; intro w' hu hbk hsz)) | refine T.ret ?_)
   exact retCT rfl (load_whole (by assumption) rfl) rfl ⟨_, rfl, by rw [decide_eq_true hR, show rootC N = (p25519 - rootB N % p25519) % p25519 from by rw [rootC, if_pos hR, if_pos ho]], yG⟩
  ·refine T.cond_no rfl (decide_eq_false ho) ?_
   repeat (first | (refine TL.isAsg ?_; refine TL.pure rfl rfl ?_) | (refine TL.isLoad ?_; refine TL.loadW rfl yB (by exact rfl) rfl ?_) | refine TL.nil ?_ | refine thenQ_normal ?_ | refine T.seq ?_ | refine T.region ?_ | (refine TL.isStore ?_; (refine TL.storeWh rfl rfl yB (by exact rfl) (by exact rfl) (by exact rfl) ?_; intro w' hu hbk hsz)) | refine T.ret ?_ | refine T.skip ?_)
   exact retCT rfl (load_whole (by assumption) rfl) rfl ⟨_, rfl, by rw [decide_eq_true hR, show rootC N = rootB N from by rw [rootC, if_pos hR, if_neg ho]], yG⟩
 ·refine T.cond_yes rfl (by rw [decide_eq_false hr]; rfl) ?_
  have hR : ¬ hasRoot N := hr
  repeat (first | (refine TL.isAsg ?_; refine TL.pure rfl rfl ?_) | refine TL.nil ?_ | refine thenQ_normal ?_ | refine T.seq ?_ | refine T.region ?_ | (refine TL.isStore ?_; (refine TL.storeWh rfl rfl yB (by exact rfl) (by exact rfl) (by exact rfl) ?_; intro w' hu hbk hsz)) | refine TL.buildArr rfl rfl rfl ?_ | refine T.ret ?_ | refine thenQ_ret ?_)
  exact retCT rfl (load_whole (by assumption) rfl) rfl ⟨_, rfl, by rw [decide_eq_false hR, show rootC N = 0 from by rw [rootC, if_neg hR]]; rfl, yG⟩
end Go.Proofs.Ytmpjigghgedjbaa
