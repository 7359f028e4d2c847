/-
  Package field, ninth text: ones, Inv, Odd, Canon, Same, Root.
-/
import Derived.Test.YtmpjigghgedjbaaFh
namespace Go.Proofs.Ytmpjigghgedjbaa
open Go Go.RowKit Go.V
set_option linter.unusedSimpArgs false
set_option linter.unusedVariables false

theorem b8_inj {x y : Nat} (hx : x < 18446744073709551616) (hy : y < 18446744073709551616) (h : b8 x = b8 y) : x = y := by
  simp only [b8, List.cons.injEq, B1, Value.int.injEq, Int.natCast_inj, true_and, and_true] at h
  omega
theorem num_inj {a b : Nat} (ha : a < 115792089237316195423570985008687907853269984665640564039457584007913129639936) (hb : b < 115792089237316195423570985008687907853269984665640564039457584007913129639936) (h : numL a = numL b) : a = b := by
  unfold numL at h
  obtain ⟨h0, h⟩ := List.append_inj h rfl
  obtain ⟨h1, h⟩ := List.append_inj h rfl
  obtain ⟨h2, h3⟩ := List.append_inj h rfl
  have e0 := b8_inj (q0_lt a) (q0_lt b) h0
  have e1 := b8_inj (q1_lt a) (q1_lt b) h1
  have e2 := b8_inj (q2_lt a) (q2_lt b) h2
  have e3 := b8_inj (q3_lt a) (q3_lt b) h3
  unfold q0 at e0; unfold q1 at e1; unfold q2 at e2; unfold q3 at e3
  omega
theorem num_dec {a b : Nat} (ha : a < 115792089237316195423570985008687907853269984665640564039457584007913129639936) (hb : b < 115792089237316195423570985008687907853269984665640564039457584007913129639936) : decide (a = b) = true ↔ numL a = numL b := by
  rw [decide_eq_true_eq]
  exact ⟨fun h => by rw [h], num_inj ha hb⟩
theorem mod_big (a : Nat) : a % p25519 < 115792089237316195423570985008687907853269984665640564039457584007913129639936 :=
  Nat.lt_trans (Nat.mod_lt _ (by decide)) (by decide)

theorem canon_c (N : Nat) (hN : N < 115792089237316195423570985008687907853269984665640564039457584007913129639936) (w : World) :
    Calls Try.prog 24 #[num N] w (Ret fun v w' => v = .bool (decide (N % p25519 = N)) ∧ Grow w w') := by
  refine V.calls (args := [_]) Try.func24 rfl Try.ntmps24 rfl rfl ?_
  repeat (first | (refine TL.isAsg ?_; first | refine TL.pure rfl rfl ?_) | (refine TL.isLoad ?_; first | refine TL.load1 rfl yM rfl ?_ | refine TL.loadW rfl yB (by exact rfl) rfl ?_ | refine TL.loadN rfl yB (by exact rfl) (by exact rfl) rfl ?_) | refine TL.nil ?_ | refine thenQ_normal ?_ | refine T.seq ?_ | refine T.region ?_ | refine T.block ?_ | refine blockQ_normal ?_ | (refine TL.isBin ?_; first | refine TL.pure rfl rfl ?_ | refine TL.eqNil rfl rfl rfl ?_ | refine TL.neNil rfl rfl rfl ?_) | (refine TL.isBox ?_; first | (refine TL.box rfl rfl rfl ?_; intro bk w' hg hbk hsz hsz')) | refine T.ret ?_ | refine T.skip ?_ | refine T.exit ?_ | refine thenQ_ret ?_ | refine thenQ_exit ?_ | refine blockQ_hit ?_ | refine blockQ_miss rfl ?_ | refine blockQ_ret ?_ | refine loopQ_ret ?_ | refine loopQ_exit ?_ | refine TL.pure rfl rfl ?_)
  apply T.any 4 [is _, is _, is _, is _]; (· first | kernel_rfl | rfl); (· ((repeat' (first | exact allDo_end | refine allDo_cons ?_ ?_)); (iterate 4 (· ((first | refine does_mk0 rfl rfl rfl ?_ | refine does_mk rfl rfl rfl rfl ?_); ( intro wq _ _ hgq; (repeat (refine need_cons rfl rfl ?_; intro vq hvq; try (obtain rfl := hvq))); (refine need_nil ?_)); (repeat (first | (refine TL.isAsg ?_; first | refine TL.pure rfl rfl ?_) | (refine TL.isLoad ?_; first | refine TL.load1 rfl yM rfl ?_ | refine TL.loadW rfl yB (by exact rfl) rfl ?_ | refine TL.loadN rfl yB (by exact rfl) (by exact rfl) rfl ?_) | refine TL.nil ?_ | refine thenQ_normal ?_ | refine T.seq ?_ | refine T.region ?_ | refine T.block ?_ | refine blockQ_normal ?_ | (refine TL.isBin ?_; first | refine TL.pure rfl rfl ?_ | refine TL.eqNil rfl rfl rfl ?_ | refine TL.neNil rfl rfl rfl ?_) | (refine TL.isBox ?_; first | (refine TL.box rfl rfl rfl ?_; intro bk w' hg hbk hsz hsz')) | refine T.ret ?_ | refine T.skip ?_ | refine T.exit ?_ | refine thenQ_ret ?_ | refine thenQ_exit ?_ | refine blockQ_hit ?_ | refine blockQ_miss rfl ?_ | refine blockQ_ret ?_ | refine loopQ_ret ?_ | refine loopQ_exit ?_ | refine TL.pure rfl rfl ?_ | (refine TL.call rfl (rest_c _ (by assumption) _) rfl ?_; rintro _ _ ⟨rfl, hgc⟩) | (refine TL.eqArr (xs := numL _) (ys := numL _) (decide (N % p25519 = N)) rfl rfl rfl (by trivial) rfl (num_dec (mod_big _) hN) rfl ?_))); first | exact one_end rfl yG rfl | exact one_end rfl yG (congrArg Value.bool (by first | assumption | exact yD))))))); (rintro _ _ _ hgr _ _; (repeat (refine need_cons rfl rfl ?_; intro vq hvq; try (obtain rfl := hvq))); (refine need_nil ?_))
  repeat (first | (refine TL.isAsg ?_; first | refine TL.pure rfl rfl ?_) | (refine TL.isLoad ?_; first | refine TL.load1 rfl yM rfl ?_ | refine TL.loadW rfl yB (by exact rfl) rfl ?_ | refine TL.loadN rfl yB (by exact rfl) (by exact rfl) rfl ?_) | refine TL.nil ?_ | refine thenQ_normal ?_ | refine T.seq ?_ | refine T.region ?_ | refine T.block ?_ | refine blockQ_normal ?_ | (refine TL.isBin ?_; first | refine TL.pure rfl rfl ?_ | refine TL.eqNil rfl rfl rfl ?_ | refine TL.neNil rfl rfl rfl ?_) | (refine TL.isBox ?_; first | (refine TL.box rfl rfl rfl ?_; intro bk w' hg hbk hsz hsz')) | refine T.ret ?_ | refine T.skip ?_ | refine T.exit ?_ | refine thenQ_ret ?_ | refine thenQ_exit ?_ | refine blockQ_hit ?_ | refine blockQ_miss rfl ?_ | refine blockQ_ret ?_ | refine loopQ_ret ?_ | refine loopQ_exit ?_ | refine TL.pure rfl rfl ?_)
  exact ret1 rfl ⟨_, rfl, rfl, yG⟩

theorem same_c (N M : Nat) (hN : N < 115792089237316195423570985008687907853269984665640564039457584007913129639936) (hM : M < 115792089237316195423570985008687907853269984665640564039457584007913129639936) (w : World) :
    Calls Try.prog 25 #[num N, num M] w (Ret fun v w' => v = .bool (decide (N % p25519 = M % p25519)) ∧ Grow w w') := by
  refine V.calls (args := [_, _]) Try.func25 rfl Try.ntmps25 rfl rfl ?_
  repeat (first | (refine TL.isAsg ?_; first | refine TL.pure rfl rfl ?_) | (refine TL.isLoad ?_; first | refine TL.load1 rfl yM rfl ?_ | refine TL.loadW rfl yB (by exact rfl) rfl ?_ | refine TL.loadN rfl yB (by exact rfl) (by exact rfl) rfl ?_) | refine TL.nil ?_ | refine thenQ_normal ?_ | refine T.seq ?_ | refine T.region ?_ | refine T.block ?_ | refine blockQ_normal ?_ | (refine TL.isBin ?_; first | refine TL.pure rfl rfl ?_ | refine TL.eqNil rfl rfl rfl ?_ | refine TL.neNil rfl rfl rfl ?_) | (refine TL.isBox ?_; first | (refine TL.box rfl rfl rfl ?_; intro bk w' hg hbk hsz hsz')) | refine T.ret ?_ | refine T.skip ?_ | refine T.exit ?_ | refine thenQ_ret ?_ | refine thenQ_exit ?_ | refine blockQ_hit ?_ | refine blockQ_miss rfl ?_ | refine blockQ_ret ?_ | refine loopQ_ret ?_ | refine loopQ_exit ?_ | refine TL.pure rfl rfl ?_)
  apply T.any 5 [is _, is _, is _, is _, is _]; (· first | kernel_rfl | rfl); (· ((repeat' (first | exact allDo_end | refine allDo_cons ?_ ?_)); (iterate 5 (· ((first | refine does_mk0 rfl rfl rfl ?_ | refine does_mk rfl rfl rfl rfl ?_); ( intro wq _ _ hgq; (repeat (refine need_cons rfl rfl ?_; intro vq hvq; try (obtain rfl := hvq))); (refine need_nil ?_)); (repeat (first | (refine TL.isAsg ?_; first | refine TL.pure rfl rfl ?_) | (refine TL.isLoad ?_; first | refine TL.load1 rfl yM rfl ?_ | refine TL.loadW rfl yB (by exact rfl) rfl ?_ | refine TL.loadN rfl yB (by exact rfl) (by exact rfl) rfl ?_) | refine TL.nil ?_ | refine thenQ_normal ?_ | refine T.seq ?_ | refine T.region ?_ | refine T.block ?_ | refine blockQ_normal ?_ | (refine TL.isBin ?_; first | refine TL.pure rfl rfl ?_ | refine TL.eqNil rfl rfl rfl ?_ | refine TL.neNil rfl rfl rfl ?_) | (refine TL.isBox ?_; first | (refine TL.box rfl rfl rfl ?_; intro bk w' hg hbk hsz hsz')) | refine T.ret ?_ | refine T.skip ?_ | refine T.exit ?_ | refine thenQ_ret ?_ | refine thenQ_exit ?_ | refine blockQ_hit ?_ | refine blockQ_miss rfl ?_ | refine blockQ_ret ?_ | refine loopQ_ret ?_ | refine loopQ_exit ?_ | refine TL.pure rfl rfl ?_ | (refine TL.call rfl (rest_c _ (by assumption) _) rfl ?_; rintro _ _ ⟨rfl, hgc⟩) | (refine TL.eqArr (xs := numL _) (ys := numL _) (decide (N % p25519 = M % p25519)) rfl rfl rfl (by trivial) rfl (num_dec (mod_big _) (mod_big _)) rfl ?_))); first | exact one_end rfl yG rfl | exact one_end rfl yG (congrArg Value.bool (by first | assumption | exact yD))))))); (rintro _ _ _ hgr _ _; (repeat (refine need_cons rfl rfl ?_; intro vq hvq; try (obtain rfl := hvq))); (refine need_nil ?_))
  repeat (first | (refine TL.isAsg ?_; first | refine TL.pure rfl rfl ?_) | (refine TL.isLoad ?_; first | refine TL.load1 rfl yM rfl ?_ | refine TL.loadW rfl yB (by exact rfl) rfl ?_ | refine TL.loadN rfl yB (by exact rfl) (by exact rfl) rfl ?_) | refine TL.nil ?_ | refine thenQ_normal ?_ | refine T.seq ?_ | refine T.region ?_ | refine T.block ?_ | refine blockQ_normal ?_ | (refine TL.isBin ?_; first | refine TL.pure rfl rfl ?_ | refine TL.eqNil rfl rfl rfl ?_ | refine TL.neNil rfl rfl rfl ?_) | (refine TL.isBox ?_; first | (refine TL.box rfl rfl rfl ?_; intro bk w' hg hbk hsz hsz')) | refine T.ret ?_ | refine T.skip ?_ | refine T.exit ?_ | refine thenQ_ret ?_ | refine thenQ_exit ?_ | refine blockQ_hit ?_ | refine blockQ_miss rfl ?_ | refine blockQ_ret ?_ | refine loopQ_ret ?_ | refine loopQ_exit ?_ | refine TL.pure rfl rfl ?_)
  exact ret1 rfl ⟨_, rfl, rfl, yG⟩

theorem odd_c (N : Nat) (hN : N < 115792089237316195423570985008687907853269984665640564039457584007913129639936) (w : World) :
    Calls Try.prog 23 #[num N] w (Ret fun v w' => v = .bool (decide (N % p25519 % 2 = 1)) ∧ Grow w w') := by
  refine V.calls (args := [_]) Try.func23 rfl Try.ntmps23 rfl rfl ?_
  repeat (first | (refine TL.isAsg ?_; first | refine TL.pure rfl rfl ?_) | (refine TL.isLoad ?_; first | refine TL.load1 rfl yM rfl ?_ | refine TL.loadW rfl yB (by exact rfl) rfl ?_ | refine TL.loadN rfl yB (by exact rfl) (by exact rfl) rfl ?_) | (refine TL.isAnd ?_; first | refine TL.andU rfl rfl rfl rfl (by omega) (by omega) rfl ?_) | refine TL.nil ?_ | refine thenQ_normal ?_ | refine T.seq ?_ | refine T.region ?_ | refine T.block ?_ | refine blockQ_normal ?_ | (refine TL.isBin ?_; first | refine TL.pure rfl rfl ?_ | refine TL.eqNil rfl rfl rfl ?_ | refine TL.neNil rfl rfl rfl ?_) | (refine TL.isBox ?_; first | (refine TL.box rfl rfl rfl ?_; intro bk w' hg hbk hsz hsz')) | refine T.ret ?_ | refine T.skip ?_ | refine T.exit ?_ | refine thenQ_ret ?_ | refine thenQ_exit ?_ | refine blockQ_hit ?_ | refine blockQ_miss rfl ?_ | refine blockQ_ret ?_ | refine loopQ_ret ?_ | refine loopQ_exit ?_ | refine TL.pure rfl rfl ?_)
  refine TL.call rfl (rest_c _ hN _) rfl ?_
  rintro _ _ ⟨rfl, hgc⟩
  refine TL.indexV (cs := numL (N % p25519)) rfl rfl (by omega) rfl rfl rfl ?_
  have hb : q0 (N % p25519) % 256 % 2 = N % p25519 % 2 := by unfold q0; omega
  repeat (first | (refine TL.isAsg ?_; first | refine TL.pure rfl rfl ?_) | (refine TL.isLoad ?_; first | refine TL.load1 rfl yM rfl ?_ | refine TL.loadW rfl yB (by exact rfl) rfl ?_ | refine TL.loadN rfl yB (by exact rfl) (by exact rfl) rfl ?_) | (refine TL.isAnd ?_; first | refine TL.andU rfl rfl rfl rfl (by omega) (by omega) rfl ?_) | refine TL.nil ?_ | refine thenQ_normal ?_ | refine T.seq ?_ | refine T.region ?_ | refine T.block ?_ | refine blockQ_normal ?_ | (refine TL.isBin ?_; first | refine TL.pure rfl rfl ?_ | refine TL.eqNil rfl rfl rfl ?_ | refine TL.neNil rfl rfl rfl ?_) | (refine TL.isBox ?_; first | (refine TL.box rfl rfl rfl ?_; intro bk w' hg hbk hsz hsz')) | refine T.ret ?_ | refine T.skip ?_ | refine T.exit ?_ | refine thenQ_ret ?_ | refine thenQ_exit ?_ | refine blockQ_hit ?_ | refine blockQ_miss rfl ?_ | refine blockQ_ret ?_ | refine loopQ_ret ?_ | refine loopQ_exit ?_ | refine TL.pure rfl rfl ?_)
  have e : (((q0 (N % p25519) % 256 % 2 : Nat) : Int) == 1) = decide (N % p25519 % 2 = 1) := by
    rw [hb]
    rcases Nat.mod_two_eq_zero_or_one (N % p25519) with h | h <;> rw [h] <;> rfl
  exact ret1 rfl ⟨_, rfl, by rw [← e], yG⟩

/-- k bytes of ones, and zeros. -/
def onesL (k : Nat) : List Value := List.replicate k (Value.int .u8 255) ++ List.replicate (32 - k) (Value.int .u8 0)
theorem onesL_set {k : Nat} (hk : k < 32) : (onesL k).set (0 + k * 1) (Value.int .u8 255) = onesL (k + 1) := by
  unfold onesL
  rw [Nat.zero_add, Nat.mul_one, List.set_append_right _ _ (by simp)]
  have h : 32 - k = (32 - (k + 1)) + 1 := by omega
  rw [h, List.replicate_succ, List.length_replicate, Nat.sub_self, List.set_cons_zero, List.replicate_succ', List.append_assoc]
  rfl
theorem onesL_len {k : Nat} (hk : k < 32) : Nat.blt (0 + k * 1) (onesL k).length = true := by
  unfold onesL
  simp [Nat.blt]
  omega

theorem ones_c (a b : Nat) (w : World) :
    Calls Try.prog 66 #[B1 a, B1 b] w (Ret fun v w' => v = .agg (((onesL 32).set 0 (B1 a)).set 31 (B1 b)).toArray ∧ Grow w w') := by
  refine V.calls (args := [_, _]) Try.func66 rfl Try.ntmps66 rfl rfl ?_
  repeat (first | (refine TL.isMove ?_; first | refine TL.pure rfl rfl ?_) | (refine TL.isAsg ?_; first | refine TL.pure rfl rfl ?_) | (refine TL.isLoad ?_; first | refine TL.load1 rfl yM rfl ?_ | refine TL.loadW rfl yB (by exact rfl) rfl ?_ | refine TL.loadN rfl yB (by exact rfl) (by exact rfl) rfl ?_) | (refine TL.isIndex ?_; first | refine TL.indexArr rfl rfl (by omega) rfl rfl ?_ | refine TL.indexAt rfl rfl (by omega) rfl rfl ?_) | (refine TL.isAdd ?_; first | refine TL.addI rfl rfl (by omega) (by omega) rfl ?_ | refine TL.addU rfl rfl rfl (by omega) rfl ?_ | refine TL.addW rfl rfl rfl rfl ?_ | refine TL.pure rfl rfl ?_) | refine TL.nil ?_ | refine thenQ_normal ?_ | refine T.seq ?_ | refine T.region ?_ | refine T.block ?_ | refine blockQ_normal ?_ | (refine TL.isBin ?_; first | refine TL.pure rfl rfl ?_ | refine TL.eqNil rfl rfl rfl ?_ | refine TL.neNil rfl rfl rfl ?_) | (refine TL.isStore ?_; first | (refine TL.store1 rfl rfl yB (by exact rfl) (by exact rfl) (by exact rfl) ?_; intro w' hu hbk hsz) | (refine TL.storeWh rfl rfl yB (by exact rfl) (by exact rfl) (by exact rfl) ?_; intro w' hu hbk hsz) | (refine TL.storeN rfl rfl yB (by exact rfl) (by exact rfl) (by exact rfl) (by exact rfl) ?_; intro w' hu hbk hsz)) | (refine TL.isAlloc ?_; first | (refine TL.alloc rfl rfl ?_; intro bk w' hg hbk hsz hsz')) | refine T.cond_true rfl ?_ | refine T.cond_false rfl ?_ | refine T.cond_yes rfl yD ?_ | refine T.cond_no rfl yD ?_ | refine T.ret ?_ | refine T.skip ?_ | refine T.exit ?_ | refine thenQ_ret ?_ | refine thenQ_exit ?_ | refine blockQ_hit ?_ | refine blockQ_miss rfl ?_ | refine blockQ_ret ?_ | refine loopQ_ret ?_ | refine loopQ_exit ?_ | refine TL.pure rfl rfl ?_)
  rename_i b1 w1 g1 k1 s1 t1
  have hbn1 : b1 ≠ bk := by omega
  have c1 : Blk w' b1 23 zeros := by exact yB
  have c2 : Blk w' bk 23 (onesL 0) := hbk
  have hG : Grow w w' := by exact yG
  have hw1 : w.heap.size ≤ b1 := by omega
  have hw2 : w.heap.size ≤ bk := by omega
  refine T.loop (S := Nat) (fun k => [(7, .int .i64 (k : Int)), (5, .pointer (some ⟨bk, 0, none⟩)), (4, .pointer (some ⟨b1, 0, none⟩)), (0, B1 a), (1, B1 b)])
    (fun k v => k ≤ 32 ∧ Blk v bk 23 (onesL k) ∧ Blk v b1 23 zeros ∧ Grow w v) (fun k => 32 - k) 0 ⟨rfl, rfl, rfl, rfl, rfl, trivial⟩ ⟨by omega, c2, c1, hG⟩ ?_
  clear c1 c2 hbk k1 hG
  rintro k v ⟨hk, m1, m2, hG⟩
  have n1 := m1.lt
  have n2 := m2.lt
  rcases Nat.lt_or_ge k 32 with hlt | hge
  · refine T.seq ?_
    refine T.region ?_
    refine TL.pure rfl rfl ?_
    refine TL.nil ?_
    refine thenQ_normal ?_
    refine T.seq ?_
    refine T.cond_yes rfl (by simp only [decide_eq_true_eq, decide_eq_false_iff_not]; omega) ?_
    repeat (first | (refine TL.isMove ?_; first | refine TL.pure rfl rfl ?_) | (refine TL.isAsg ?_; first | refine TL.pure rfl rfl ?_) | (refine TL.isLoad ?_; first | refine TL.load1 rfl yM rfl ?_ | refine TL.loadW rfl yB (by exact rfl) rfl ?_ | refine TL.loadN rfl yB (by exact rfl) (by exact rfl) rfl ?_) | (refine TL.isIndex ?_; first | refine TL.indexArr rfl rfl (by omega) rfl rfl ?_ | refine TL.indexAt rfl rfl (by omega) rfl rfl ?_) | (refine TL.isAdd ?_; first | refine TL.addI rfl rfl (by omega) (by omega) rfl ?_ | refine TL.addU rfl rfl rfl (by omega) rfl ?_ | refine TL.addW rfl rfl rfl rfl ?_ | refine TL.pure rfl rfl ?_) | refine TL.nil ?_ | refine thenQ_normal ?_ | refine T.seq ?_ | refine T.region ?_ | refine T.block ?_ | refine blockQ_normal ?_ | (refine TL.isBin ?_; first | refine TL.pure rfl rfl ?_ | refine TL.eqNil rfl rfl rfl ?_ | refine TL.neNil rfl rfl rfl ?_) | (refine TL.isStore ?_; first | (refine TL.store1 rfl rfl yB (by exact rfl) (by exact rfl) (by exact rfl) ?_; intro w' hu hbk hsz) | (refine TL.storeWh rfl rfl yB (by exact rfl) (by exact rfl) (by exact rfl) ?_; intro w' hu hbk hsz) | (refine TL.storeN rfl rfl yB (by exact rfl) (by exact rfl) (by exact rfl) (by exact rfl) ?_; intro w' hu hbk hsz)) | (refine TL.isAlloc ?_; first | (refine TL.alloc rfl rfl ?_; intro bk w' hg hbk hsz hsz')) | refine T.cond_true rfl ?_ | refine T.cond_false rfl ?_ | refine T.cond_yes rfl yD ?_ | refine T.cond_no rfl yD ?_ | refine T.ret ?_ | refine T.skip ?_ | refine T.exit ?_ | refine thenQ_ret ?_ | refine thenQ_exit ?_ | refine blockQ_hit ?_ | refine blockQ_miss rfl ?_ | refine blockQ_ret ?_ | refine loopQ_ret ?_ | refine loopQ_exit ?_ | refine TL.pure rfl rfl ?_ | refine TL.store1 rfl rfl m1 rfl (onesL_len hlt) (onesL_set hlt) ?_; intro w' hu hbk hsz)
    exact loopQ_normal (k + 1) ⟨rfl, rfl, rfl, rfl, rfl, trivial⟩ ⟨by omega, yB, yB, yG⟩ (by omega)
  · refine T.seq ?_
    refine T.region ?_
    refine TL.pure rfl rfl ?_
    refine TL.nil ?_
    refine thenQ_normal ?_
    refine T.seq ?_
    refine T.cond_no rfl (by simp only [decide_eq_true_eq, decide_eq_false_iff_not]; omega) ?_
    have hk6 : k = 32 := by omega
    subst hk6
    repeat (first | (refine TL.isMove ?_; first | refine TL.pure rfl rfl ?_) | (refine TL.isAsg ?_; first | refine TL.pure rfl rfl ?_) | (refine TL.isLoad ?_; first | refine TL.load1 rfl yM rfl ?_ | refine TL.loadW rfl yB (by exact rfl) rfl ?_ | refine TL.loadN rfl yB (by exact rfl) (by exact rfl) rfl ?_) | (refine TL.isIndex ?_; first | refine TL.indexArr rfl rfl (by omega) rfl rfl ?_ | refine TL.indexAt rfl rfl (by omega) rfl rfl ?_) | (refine TL.isAdd ?_; first | refine TL.addI rfl rfl (by omega) (by omega) rfl ?_ | refine TL.addU rfl rfl rfl (by omega) rfl ?_ | refine TL.addW rfl rfl rfl rfl ?_ | refine TL.pure rfl rfl ?_) | refine TL.nil ?_ | refine thenQ_normal ?_ | refine T.seq ?_ | refine T.region ?_ | refine T.block ?_ | refine blockQ_normal ?_ | (refine TL.isBin ?_; first | refine TL.pure rfl rfl ?_ | refine TL.eqNil rfl rfl rfl ?_ | refine TL.neNil rfl rfl rfl ?_) | (refine TL.isStore ?_; first | (refine TL.store1 rfl rfl yB (by exact rfl) (by exact rfl) (by exact rfl) ?_; intro w' hu hbk hsz) | (refine TL.storeWh rfl rfl yB (by exact rfl) (by exact rfl) (by exact rfl) ?_; intro w' hu hbk hsz) | (refine TL.storeN rfl rfl yB (by exact rfl) (by exact rfl) (by exact rfl) (by exact rfl) ?_; intro w' hu hbk hsz)) | (refine TL.isAlloc ?_; first | (refine TL.alloc rfl rfl ?_; intro bk w' hg hbk hsz hsz')) | refine T.cond_true rfl ?_ | refine T.cond_false rfl ?_ | refine T.cond_yes rfl yD ?_ | refine T.cond_no rfl yD ?_ | refine T.ret ?_ | refine T.skip ?_ | refine T.exit ?_ | refine thenQ_ret ?_ | refine thenQ_exit ?_ | refine blockQ_hit ?_ | refine blockQ_miss rfl ?_ | refine blockQ_ret ?_ | refine loopQ_ret ?_ | refine loopQ_exit ?_ | refine TL.pure rfl rfl ?_)
    exact retC rfl (load_whole (by assumption) rfl) ⟨_, rfl, rfl, yG⟩
/-- What the three exponents are. -/
theorem ones_inv : Value.agg (((onesL 32).set 0 (B1 235)).set 31 (B1 127)).toArray = num 57896044618658097711785492504343953926634992332820282019728792003956564819947 := rfl
theorem ones_root : Value.agg (((onesL 32).set 0 (B1 254)).set 31 (B1 15)).toArray = num 7237005577332262213973186563042994240829374041602535252466099000494570602494 := rfl
theorem ones_turn : Value.agg (((onesL 32).set 0 (B1 251)).set 31 (B1 31)).toArray = num 14474011154664524427946373126085988481658748083205070504932198000989141204987 := rfl

theorem inv_c (N : Nat) (hN : N < 115792089237316195423570985008687907853269984665640564039457584007913129639936) (w : World) :
    Calls Try.prog 16 #[num N] w (Ret fun v w' => v = num (pw N 57896044618658097711785492504343953926634992332820282019728792003956564819947) ∧ Grow w w') := by
  refine V.calls (args := [_]) Try.func16 rfl Try.ntmps16 rfl rfl ?_
  repeat (first | (refine TL.isLoad ?_; first | refine TL.load1 rfl yM rfl ?_ | refine TL.loadW rfl yB (by exact rfl) rfl ?_ | refine TL.loadN rfl yB (by exact rfl) (by exact rfl) rfl ?_) | refine TL.nil ?_ | refine thenQ_normal ?_ | refine T.seq ?_ | refine T.region ?_ | refine T.block ?_ | refine blockQ_normal ?_ | (refine TL.isStore ?_; first | (refine TL.store1 rfl rfl yB (by exact rfl) (by exact rfl) (by exact rfl) ?_; intro w' hu hbk hsz) | (refine TL.storeWh rfl rfl yB (by exact rfl) (by exact rfl) (by exact rfl) ?_; intro w' hu hbk hsz) | (refine TL.storeN rfl rfl yB (by exact rfl) (by exact rfl) (by exact rfl) (by exact rfl) ?_; intro w' hu hbk hsz)) | (refine TL.isBox ?_; first | (refine TL.box rfl rfl rfl ?_; intro bk w' hg hbk hsz hsz')) | (refine TL.isAlloc ?_; first | (refine TL.alloc rfl rfl ?_; intro bk w' hg hbk hsz hsz')) | refine T.ret ?_ | refine T.skip ?_ | refine T.exit ?_ | refine thenQ_ret ?_ | refine thenQ_exit ?_ | refine blockQ_hit ?_ | refine blockQ_miss rfl ?_ | refine blockQ_ret ?_ | refine loopQ_ret ?_ | refine loopQ_exit ?_ | refine TL.pure rfl rfl ?_)
  apply T.any 3 [is _, is _, is _]; (· first | kernel_rfl | rfl); (· ((repeat' (first | exact allDo_end | refine allDo_cons ?_ ?_)); (iterate 3 (· ((first | refine does_mk0 rfl rfl rfl ?_ | refine does_mk rfl rfl rfl rfl ?_); ( intro wq _ _ hgq; (repeat (refine need_cons rfl rfl ?_; intro vq hvq; try (obtain rfl := hvq))); (refine need_nil ?_)); (repeat (first | (refine TL.isLoad ?_; first | refine TL.load1 rfl yM rfl ?_ | refine TL.loadW rfl yB (by exact rfl) rfl ?_ | refine TL.loadN rfl yB (by exact rfl) (by exact rfl) rfl ?_) | refine TL.nil ?_ | refine thenQ_normal ?_ | refine T.seq ?_ | refine T.region ?_ | refine T.block ?_ | refine blockQ_normal ?_ | (refine TL.isStore ?_; first | (refine TL.store1 rfl rfl yB (by exact rfl) (by exact rfl) (by exact rfl) ?_; intro w' hu hbk hsz) | (refine TL.storeWh rfl rfl yB (by exact rfl) (by exact rfl) (by exact rfl) ?_; intro w' hu hbk hsz) | (refine TL.storeN rfl rfl yB (by exact rfl) (by exact rfl) (by exact rfl) (by exact rfl) ?_; intro w' hu hbk hsz)) | (refine TL.isBox ?_; first | (refine TL.box rfl rfl rfl ?_; intro bk w' hg hbk hsz hsz')) | (refine TL.isAlloc ?_; first | (refine TL.alloc rfl rfl ?_; intro bk w' hg hbk hsz hsz')) | refine T.ret ?_ | refine T.skip ?_ | refine T.exit ?_ | refine thenQ_ret ?_ | refine thenQ_exit ?_ | refine blockQ_hit ?_ | refine blockQ_miss rfl ?_ | refine blockQ_ret ?_ | refine loopQ_ret ?_ | refine loopQ_exit ?_ | refine TL.pure rfl rfl ?_ | (refine TL.call rfl (ones_c 235 127 _) rfl ?_; rintro _ _ ⟨rfl, hgc⟩) | (refine TL.call rfl (pow_c N 57896044618658097711785492504343953926634992332820282019728792003956564819947 hN (by decide) _) rfl ?_; rintro _ _ ⟨rfl, hgc⟩))); first | exact one_end rfl yG rfl | exact one_end rfl yG (congrArg Value.bool (by first | assumption | exact yD))))))); (rintro _ _ _ hgr _ _; (repeat (refine need_cons rfl rfl ?_; intro vq hvq; try (obtain rfl := hvq))); (refine need_nil ?_))
  repeat (first | (refine TL.isLoad ?_; first | refine TL.load1 rfl yM rfl ?_ | refine TL.loadW rfl yB (by exact rfl) rfl ?_ | refine TL.loadN rfl yB (by exact rfl) (by exact rfl) rfl ?_) | refine TL.nil ?_ | refine thenQ_normal ?_ | refine T.seq ?_ | refine T.region ?_ | refine T.block ?_ | refine blockQ_normal ?_ | (refine TL.isStore ?_; first | (refine TL.store1 rfl rfl yB (by exact rfl) (by exact rfl) (by exact rfl) ?_; intro w' hu hbk hsz) | (refine TL.storeWh rfl rfl yB (by exact rfl) (by exact rfl) (by exact rfl) ?_; intro w' hu hbk hsz) | (refine TL.storeN rfl rfl yB (by exact rfl) (by exact rfl) (by exact rfl) (by exact rfl) ?_; intro w' hu hbk hsz)) | (refine TL.isBox ?_; first | (refine TL.box rfl rfl rfl ?_; intro bk w' hg hbk hsz hsz')) | (refine TL.isAlloc ?_; first | (refine TL.alloc rfl rfl ?_; intro bk w' hg hbk hsz hsz')) | refine T.ret ?_ | refine T.skip ?_ | refine T.exit ?_ | refine thenQ_ret ?_ | refine thenQ_exit ?_ | refine blockQ_hit ?_ | refine blockQ_miss rfl ?_ | refine blockQ_ret ?_ | refine loopQ_ret ?_ | refine loopQ_exit ?_ | refine TL.pure rfl rfl ?_)
  exact retC rfl (load_whole (by assumption) rfl) ⟨_, rfl, rfl, yG⟩
end Go.Proofs.Ytmpjigghgedjbaa
