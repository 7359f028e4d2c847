import Derived.Test.YtmpjigghgedjbaaQj
import Derived.Test.YtmpjigghgedjbaaQg
set_option linter.unusedSimpArgs false
set_option linter.unusedVariables false
set_option linter.unusedSectionVars false
namespace Go.Proofs.Ytmpjigghgedjbaa
open Go Go.RowKit Go.V
def opnW (N : Nat) : List Nat := carryL (opL N 10 0)
theorem opn_w (N : Nat) (w : World) : Calls Try.prog 75 #[num N] w (Ret fun v w' => v = tenV (opnW N) ∧ Grow w w') := open_c N w
theorem rep_opn {N : Nat} (hN : N < 115792089237316195423570985008687907853269984665640564039457584007913129639936) : Rep (opnW N) N := rep_open hN
attribute [irreducible] opnW
theorem close_r {us : List Nat} {A : Nat} (h : Rep us A) (w : World) : Calls Try.prog 74 #[tenV us] w (Ret fun v w' => v = num (A % p25519) ∧ Grow w w') := by
  rw [← h.2]; exact close_c us h.1 w
theorem rest_r (N : Nat) (hN : N < 115792089237316195423570985008687907853269984665640564039457584007913129639936) (w : World) :
    Calls Try.prog 27 #[num N] w (Ret fun v w' => v = num (N % p25519) ∧ Grow w w') := by
  refine V.calls (args := [_]) Try.func27 rfl Try.ntmps27 rfl rfl ?_
  repeat (first | (refine TL.isLoad ?_; first | refine TL.loadW rfl yB (by exact rfl) rfl ?_) | refine TL.nil ?_ | refine thenQ_normal ?_ | refine T.seq ?_ | refine T.region ?_ | (refine TL.isStore ?_; first | (refine TL.storeWh rfl rfl yB (by exact rfl) (by exact rfl) (by exact rfl) ?_; intro w' hu hbk hsz)) | (refine TL.isBox ?_; first | (refine TL.boxA rfl rfl ?_; intro bk w' hg hbk hsz hsz')) | (refine TL.isAlloc ?_; first | (refine TL.alloc rfl rfl ?_; intro bk w' hg hbk hsz hsz')) | refine T.ret ?_ | (refine TL.isFn 75 ?_; refine TL.call rfl (opn_w N _) rfl ?_; rintro _ _ ⟨rfl, hgc⟩) | (refine TL.isFn 74 ?_; refine TL.call rfl (close_r (rep_opn hN) _) rfl ?_; rintro _ _ ⟨rfl, hgc⟩))
  exact retC rfl (load_whole (by assumption) rfl) ⟨_, rfl, rfl, yG⟩
theorem add_r (N M : Nat) (hN : N < 115792089237316195423570985008687907853269984665640564039457584007913129639936) (hM : M < 115792089237316195423570985008687907853269984665640564039457584007913129639936) (w : World) :
    Calls Try.prog 31 #[num N, num M] w (Ret fun v w' => v = num ((N + M) % p25519) ∧ Grow w w') := by
  refine V.calls (args := [_, _]) Try.func31 rfl Try.ntmps31 rfl rfl ?_
  have rN := rep_opn hN
  have rM := rep_opn hM
  repeat (first | refine TL.nil ?_ | refine thenQ_normal ?_ | refine T.seq ?_ | refine T.region ?_ | (refine TL.isBox ?_; first | (refine TL.boxA rfl rfl ?_; intro bk w' hg hbk hsz hsz')) | (refine TL.isAlloc ?_; first | (refine TL.alloc rfl rfl ?_; intro bk w' hg hbk hsz hsz')))
  apply T.any 6 [is _, is _, is _, is _, is _, is _]; (· first | kernel_rfl); (· ((repeat' (first | exact allDo_end | refine allDo_cons ?_ ?_)); (iterate 6 (· ((first | refine does_mk0 rfl rfl rfl ?_); ( intro wq _ _ hgq; (repeat (refine need_cons rfl rfl ?_; intro vq hvq; try (obtain rfl := hvq))); (refine need_nil ?_)); (repeat (first | (refine TL.isLoad ?_; first | refine TL.loadW rfl yB (by exact rfl) rfl ?_) | refine TL.nil ?_ | (refine TL.isFn 75 ?_; refine TL.call rfl (opn_w _ _) rfl ?_; rintro _ _ ⟨rfl, hgc⟩) | (refine TL.isFn 76 ?_; refine TL.call rfl (plus_w _ _ rN.1 rM.1 _) rfl ?_; rintro _ _ ⟨rfl, hgc⟩) | (refine TL.isFn 74 ?_; refine TL.call rfl (close_r (rep_plus rN rM) _) rfl ?_; rintro _ _ ⟨rfl, hgc⟩))); first | exact one_end rfl yG rfl))))); (rintro _ _ _ hgr _ _; (repeat (refine need_cons rfl rfl ?_; intro vq hvq; try (obtain rfl := hvq))); (refine need_nil ?_))
  repeat (first | refine TL.nil ?_ | refine thenQ_normal ?_ | (refine TL.isStore ?_; first | (refine TL.storeWh rfl rfl yB (by exact rfl) (by exact rfl) (by exact rfl) ?_; intro w' hu hbk hsz)) | refine T.ret ?_)
  exact retC rfl (load_whole (by assumption) rfl) ⟨_, rfl, rfl, yG⟩
theorem sub_r (N M : Nat) (hN : N < 115792089237316195423570985008687907853269984665640564039457584007913129639936) (hM : M < 115792089237316195423570985008687907853269984665640564039457584007913129639936) (w : World) :
    Calls Try.prog 33 #[num N, num M] w (Ret fun v w' => v = num ((N + (p25519 - M % p25519)) % p25519) ∧ Grow w w') := by
  refine V.calls (args := [_, _]) Try.func33 rfl Try.ntmps33 rfl rfl ?_
  have rN := rep_opn hN
  have rM := rep_opn hM
  repeat (first | refine TL.nil ?_ | refine thenQ_normal ?_ | refine T.seq ?_ | refine T.region ?_ | (refine TL.isBox ?_; first | (refine TL.boxA rfl rfl ?_; intro bk w' hg hbk hsz hsz')) | (refine TL.isAlloc ?_; first | (refine TL.alloc rfl rfl ?_; intro bk w' hg hbk hsz hsz')))
  apply T.any 6 [is _, is _, is _, is _, is _, is _]; (· first | kernel_rfl); (· ((repeat' (first | exact allDo_end | refine allDo_cons ?_ ?_)); (iterate 6 (· ((first | refine does_mk0 rfl rfl rfl ?_); ( intro wq _ _ hgq; (repeat (refine need_cons rfl rfl ?_; intro vq hvq; try (obtain rfl := hvq))); (refine need_nil ?_)); (repeat (first | (refine TL.isLoad ?_; first | refine TL.loadW rfl yB (by exact rfl) rfl ?_) | refine TL.nil ?_ | (refine TL.isFn 75 ?_; refine TL.call rfl (opn_w _ _) rfl ?_; rintro _ _ ⟨rfl, hgc⟩) | (refine TL.isFn 77 ?_; refine TL.call rfl (minus_w _ _ rN.1 rM.1 _) rfl ?_; rintro _ _ ⟨rfl, hgc⟩) | (refine TL.isFn 74 ?_; refine TL.call rfl (close_r (rep_minus rN rM) _) rfl ?_; rintro _ _ ⟨rfl, hgc⟩))); first | exact one_end rfl yG rfl))))); (rintro _ _ _ hgr _ _; (repeat (refine need_cons rfl rfl ?_; intro vq hvq; try (obtain rfl := hvq))); (refine need_nil ?_))
  repeat (first | refine TL.nil ?_ | refine thenQ_normal ?_ | (refine TL.isStore ?_; first | (refine TL.storeWh rfl rfl yB (by exact rfl) (by exact rfl) (by exact rfl) ?_; intro w' hu hbk hsz)) | refine T.ret ?_)
  exact retC rfl (load_whole (by assumption) rfl) ⟨_, rfl, rfl, yG⟩
theorem mul_r (N M : Nat) (hN : N < 115792089237316195423570985008687907853269984665640564039457584007913129639936) (hM : M < 115792089237316195423570985008687907853269984665640564039457584007913129639936) (w : World) :
    Calls Try.prog 35 #[num N, num M] w (Ret fun v w' => v = num (N * M % p25519) ∧ Grow w w') := by
  refine V.calls (args := [_, _]) Try.func35 rfl Try.ntmps35 rfl rfl ?_
  have rN := rep_opn hN
  have rM := rep_opn hM
  repeat (first | refine TL.nil ?_ | refine thenQ_normal ?_ | refine T.seq ?_ | refine T.region ?_ | (refine TL.isBox ?_; first | (refine TL.boxA rfl rfl ?_; intro bk w' hg hbk hsz hsz')) | (refine TL.isAlloc ?_; first | (refine TL.alloc rfl rfl ?_; intro bk w' hg hbk hsz hsz')))
  apply T.any 6 [is _, is _, is _, is _, is _, is _]; (· first | kernel_rfl); (· ((repeat' (first | exact allDo_end | refine allDo_cons ?_ ?_)); (iterate 6 (· ((first | refine does_mk0 rfl rfl rfl ?_); ( intro wq _ _ hgq; (repeat (refine need_cons rfl rfl ?_; intro vq hvq; try (obtain rfl := hvq))); (refine need_nil ?_)); (repeat (first | (refine TL.isLoad ?_; first | refine TL.loadW rfl yB (by exact rfl) rfl ?_) | refine TL.nil ?_ | (refine TL.isFn 75 ?_; refine TL.call rfl (opn_w _ _) rfl ?_; rintro _ _ ⟨rfl, hgc⟩) | (refine TL.isFn 78 ?_; refine TL.call rfl (times_w _ _ rN.1 rM.1 _) rfl ?_; rintro _ _ ⟨rfl, hgc⟩) | (refine TL.isFn 74 ?_; refine TL.call rfl (close_r (rep_times rN rM) _) rfl ?_; rintro _ _ ⟨rfl, hgc⟩))); first | exact one_end rfl yG rfl))))); (rintro _ _ _ hgr _ _; (repeat (refine need_cons rfl rfl ?_; intro vq hvq; try (obtain rfl := hvq))); (refine need_nil ?_))
  repeat (first | refine TL.nil ?_ | refine thenQ_normal ?_ | (refine TL.isStore ?_; first | (refine TL.storeWh rfl rfl yB (by exact rfl) (by exact rfl) (by exact rfl) ?_; intro w' hu hbk hsz)) | refine T.ret ?_)
  exact retC rfl (load_whole (by assumption) rfl) ⟨_, rfl, rfl, yG⟩
theorem neg_r (N : Nat) (hN : N < 115792089237316195423570985008687907853269984665640564039457584007913129639936) (w : World) :
    Calls Try.prog 34 #[num N] w (Ret fun v w' => v = num ((p25519 - N % p25519) % p25519) ∧ Grow w w') := by
  refine V.calls (args := [_]) Try.func34 rfl Try.ntmps34 rfl rfl ?_
  have e := sub_r 0 N (by decide) hN
  rw [Nat.zero_add] at e
  repeat (first | (refine TL.isLoad ?_; first | refine TL.loadW rfl yB (by exact rfl) rfl ?_) | refine TL.nil ?_ | refine thenQ_normal ?_ | refine T.seq ?_ | refine T.region ?_ | (refine TL.isBox ?_; first | (refine TL.boxA rfl rfl ?_; intro bk w' hg hbk hsz hsz')) | (refine TL.isAlloc ?_; first | (refine TL.alloc rfl rfl ?_; intro bk w' hg hbk hsz hsz')) | (refine TL.isBuild ?_; first | refine TL.buildArr rfl rfl rfl ?_))
  refine TL.call rfl (e _) rfl ?_
  rintro _ _ ⟨rfl, hgc⟩
  repeat (first | refine TL.nil ?_ | refine thenQ_normal ?_ | (refine TL.isStore ?_; first | (refine TL.storeWh rfl rfl yB (by exact rfl) (by exact rfl) (by exact rfl) ?_; intro w' hu hbk hsz)) | refine T.ret ?_)
  exact retC rfl (load_whole (by assumption) rfl) ⟨_, rfl, rfl, yG⟩
theorem canon_r (N : Nat) (hN : N < 115792089237316195423570985008687907853269984665640564039457584007913129639936) (w : World) :
    Calls Try.prog 28 #[num N] w (Ret fun v w' => v = .bool (decide (N % p25519 = N)) ∧ Grow w w') := by
  refine V.calls (args := [_]) Try.func28 rfl Try.ntmps28 rfl rfl ?_
  repeat (first | (refine TL.isAsg ?_; first | refine TL.pure rfl rfl ?_) | refine TL.nil ?_ | refine thenQ_normal ?_ | refine T.seq ?_ | refine T.region ?_ | (refine TL.isBox ?_; first | (refine TL.box rfl rfl rfl ?_; intro bk w' hg hbk hsz hsz')))
  apply T.any 4 [is _, is _, is _, is _]; (· first | kernel_rfl); (· ((repeat' (first | exact allDo_end | refine allDo_cons ?_ ?_)); (iterate 4 (· ((first | refine does_mk0 rfl rfl rfl ?_); ( intro wq _ _ hgq; (repeat (refine need_cons rfl rfl ?_; intro vq hvq; try (obtain rfl := hvq))); (refine need_nil ?_)); (repeat (first | (refine TL.isLoad ?_; first | refine TL.loadW rfl yB (by exact rfl) rfl ?_) | refine TL.nil ?_ | (refine TL.isFn 27 ?_; refine TL.call rfl (rest_r _ (by assumption) _) rfl ?_; rintro _ _ ⟨rfl, hgc⟩) | (refine TL.eqArr (xs := numL _) (ys := numL _) (decide (N % p25519 = N)) rfl rfl rfl (by trivial) rfl (num_dec (mod_big _) hN) rfl ?_))); first | exact one_end rfl yG rfl))))); (rintro _ _ _ hgr _ _; (repeat (refine need_cons rfl rfl ?_; intro vq hvq; try (obtain rfl := hvq))); (refine need_nil ?_))
  repeat (first | (refine TL.isAsg ?_; first | refine TL.pure rfl rfl ?_) | refine TL.nil ?_ | refine thenQ_normal ?_ | refine T.ret ?_)
  exact ret1 rfl ⟨_, rfl, rfl, yG⟩
theorem same_r (N M : Nat) (hN : N < 115792089237316195423570985008687907853269984665640564039457584007913129639936) (hM : M < 115792089237316195423570985008687907853269984665640564039457584007913129639936) (w : World) :
    Calls Try.prog 39 #[num N, num M] w (Ret fun v w' => v = .bool (decide (N % p25519 = M % p25519)) ∧ Grow w w') := by
  refine V.calls (args := [_, _]) Try.func39 rfl Try.ntmps39 rfl rfl ?_
  repeat (first | (refine TL.isAsg ?_; first | refine TL.pure rfl rfl ?_) | refine TL.nil ?_ | refine thenQ_normal ?_ | refine T.seq ?_ | refine T.region ?_ | (refine TL.isBox ?_; first | (refine TL.box rfl rfl rfl ?_; intro bk w' hg hbk hsz hsz')))
  apply T.any 5 [is _, is _, is _, is _, is _]; (· first | kernel_rfl); (· ((repeat' (first | exact allDo_end | refine allDo_cons ?_ ?_)); (iterate 5 (· ((first | refine does_mk0 rfl rfl rfl ?_); ( intro wq _ _ hgq; (repeat (refine need_cons rfl rfl ?_; intro vq hvq; try (obtain rfl := hvq))); (refine need_nil ?_)); (repeat (first | (refine TL.isLoad ?_; first | refine TL.loadW rfl yB (by exact rfl) rfl ?_) | refine TL.nil ?_ | (refine TL.isFn 27 ?_; refine TL.call rfl (rest_r _ (by assumption) _) rfl ?_; rintro _ _ ⟨rfl, hgc⟩) | (refine TL.eqArr (xs := numL _) (ys := numL _) (decide (N % p25519 = M % p25519)) rfl rfl rfl (by trivial) rfl (num_dec (mod_big _) (mod_big _)) rfl ?_))); first | exact one_end rfl yG rfl))))); (rintro _ _ _ hgr _ _; (repeat (refine need_cons rfl rfl ?_; intro vq hvq; try (obtain rfl := hvq))); (refine need_nil ?_))
  repeat (first | (refine TL.isAsg ?_; first | refine TL.pure rfl rfl ?_) | refine TL.nil ?_ | refine thenQ_normal ?_ | refine T.ret ?_)
  exact ret1 rfl ⟨_, rfl, rfl, yG⟩
theorem odd_r (N : Nat) (hN : N < 115792089237316195423570985008687907853269984665640564039457584007913129639936) (w : World) :
    Calls Try.prog 38 #[num N] w (Ret fun v w' => v = .bool (decide (N % p25519 % 2 = 1)) ∧ Grow w w') := by
  refine V.calls (args := [_]) Try.func38 rfl Try.ntmps38 rfl rfl ?_
  repeat (first | (refine TL.isAsg ?_; first | refine TL.pure rfl rfl ?_) | (refine TL.isLoad ?_; first | refine TL.loadW rfl yB (by exact rfl) rfl ?_) | refine TL.nil ?_ | refine thenQ_normal ?_ | refine T.seq ?_ | refine T.region ?_ | (refine TL.isBox ?_; first | (refine TL.box rfl rfl rfl ?_; intro bk w' hg hbk hsz hsz')))
  refine TL.call rfl (rest_r _ hN _) rfl ?_
  rintro _ _ ⟨rfl, hgc⟩
  refine TL.indexV (cs := numL (N % p25519)) rfl rfl (by omega) rfl rfl rfl ?_
  have hb : q0 (N % p25519) % 256 % 2 = N % p25519 % 2 := by unfold q0; omega
  refine TL.remU rfl rfl (by omega) rfl ?_
  repeat (first | (refine TL.isAsg ?_; first | refine TL.pure rfl rfl ?_) | refine TL.nil ?_ | refine thenQ_normal ?_ | (refine TL.isBin ?_; first | refine TL.pure rfl rfl ?_) | refine T.ret ?_)
  have e : (((q0 (N % p25519) % 256 % 2 : Nat) : Int) == 1) = decide (N % p25519 % 2 = 1) := by
    rw [hb]
    rcases Nat.mod_two_eq_zero_or_one (N % p25519) with h | h <;> rw [h] <;> rfl
  exact ret1 rfl ⟨_, rfl, by rw [← e], yG⟩
def stW (xs : List Nat) (E : Nat) : Nat → List Nat
  | 0 => [1, 0, 0, 0, 0, 0, 0, 0, 0, 0]
  | k + 1 => if E / 2 ^ (255 - k) % 2 = 1 then timesW (timesW (stW xs E k) (stW xs E k)) xs else timesW (stW xs E k) (stW xs E k)
theorem rep_pow {xs : List Nat} {N E : Nat} (h : Rep xs N) (hE : E < 115792089237316195423570985008687907853269984665640564039457584007913129639936) : ∀ {k : Nat}, k ≤ 256 → Rep (stW xs E k) (N ^ (E / 2 ^ (256 - k)))
  | 0, _ => by
    have : E / 2 ^ (256 - 0) = 0 := Nat.div_eq_of_lt hE
    rw [this]
    unfold stW
    exact ⟨by unfold Good; decide, rfl⟩
  | k + 1, hk => by
    have ih := rep_pow h hE (show k ≤ 256 by omega)
    have h2 := rep_times ih ih
    have e : E / 2 ^ (255 - k) = 2 * (E / 2 ^ (256 - k)) + E / 2 ^ (255 - k) % 2 := by
      rw [show 256 - k = (255 - k) + 1 by omega, Nat.pow_succ, ← Nat.div_div_eq_div_mul]; omega
    rw [show 256 - (k + 1) = 255 - k by omega, e]
    unfold stW
    split
    · rename_i hb
      rw [hb, Nat.pow_succ, Nat.two_mul, Nat.pow_add]
      exact rep_times h2 h
    · rename_i hb
      rw [show E / 2 ^ (255 - k) % 2 = 0 by omega, Nat.add_zero, Nat.two_mul, Nat.pow_add]
      exact h2
theorem stW_succ (xs : List Nat) (E k : Nat) : stW xs E (k + 1) = if E / 2 ^ (255 - k) % 2 = 1 then timesW (timesW (stW xs E k) (stW xs E k)) xs else timesW (stW xs E k) (stW xs E k) := by rw [stW]
set_option maxHeartbeats 4000000 in
set_option maxRecDepth 10000 in
theorem power_w (xs : List Nat) (N E : Nat) (hx : Rep xs N) (hE : E < 115792089237316195423570985008687907853269984665640564039457584007913129639936) (w : World) :
    Calls Try.prog 79 #[tenV xs, num E] w (Ret fun v w' => v = tenV (stW xs E 256) ∧ Grow w w') := by
  refine V.calls (args := [_, _]) Try.func79 rfl Try.ntmps79 rfl rfl ?_
  have lx : (wL xs).length = 10 := by rw [wL_len]; exact hx.1.len
  have ls : ∀ k, k ≤ 256 → (wL (stW xs E k)).length = 10 := fun k hk => by rw [wL_len]; exact (rep_pow hx hE hk).1.len
  repeat (first | (refine TL.isAsg ?_; first | refine TL.pure rfl rfl ?_) | refine TL.nil ?_ | refine thenQ_normal ?_ | refine T.seq ?_ | refine T.region ?_ | refine T.block ?_ | (refine TL.isStore ?_; first | (refine TL.storeWh rfl rfl yB (by exact rfl) (by exact rfl) (by exact rfl) ?_; intro w' hu hbk hsz)) | (refine TL.isBox ?_; first | (refine TL.boxA rfl rfl ?_; intro bk w' hg hbk hsz hsz')) | (refine TL.isAlloc ?_; first | (refine TL.alloc rfl rfl ?_; intro bk w' hg hbk hsz hsz')) | (refine TL.isBuild ?_; first | refine TL.buildArr rfl rfl rfl ?_))
  rename_i b1 w1 gg1 k1 s1 t1 b2 w2 gg2 k2 s2 t2 b4 w4 gg4 k4 s4 t4 w5 k5 s5
  have m1 : Blk w' b1 75 (wL xs) := by exact yB
  have m2 : Blk w' b2 23 (numL E) := by exact yB
  have m4 : Blk w' b4 75 [I1 0, I1 0, I1 0, I1 0, I1 0, I1 0, I1 0, I1 0, I1 0, I1 0] := by exact yB
  have m5 : Blk w' bk 75 (wL (stW xs E 0)) := by unfold stW wL; exact hbk
  have := gg1.2
  have := gg2.2
  have := gg4.2
  have := hg.2
  have hw4 : w.heap.size ≤ b4 := by omega
  have hw5 : w.heap.size ≤ bk := by omega
  have ne1 : b1 ≠ bk := by omega
  have ne2 : b2 ≠ bk := by omega
  have ne4 : b4 ≠ bk := by omega
  have hG : Grow w w' := by exact yG
  refine T.loop (S := Nat) (fun r => [(6, .int .i64 ((r : Int) - 1)), (2, .pointer (some ⟨b1, 0, none⟩)), (3, .pointer (some ⟨b2, 0, none⟩)), (4, .pointer (some ⟨b4, 0, none⟩)), (5, .pointer (some ⟨bk, 0, none⟩))])
    (fun r v => r ≤ 256 ∧ Blk v b1 75 (wL xs) ∧ Blk v b2 23 (numL E) ∧ Blk v b4 75 [I1 0, I1 0, I1 0, I1 0, I1 0, I1 0, I1 0, I1 0, I1 0, I1 0] ∧ Blk v bk 75 (wL (stW xs E (256 - r))) ∧ Grow w v) (fun r => r) 256 ⟨rfl, rfl, rfl, rfl, rfl, trivial⟩
    ⟨by omega, m1, m2, m4, by rw [Nat.sub_self]; exact m5, hG⟩ ?_
  clear m1 m2 m4 m5 hG k1 k2 k4 k5 hbk gg1 gg2 gg4 hg s1 t1 s2 t2 s4 t4 s5 hsz hsz' hu
  rintro r v ⟨hr, m1, m2, m4, m5, hG⟩
  have n1 := m1.lt
  have n2 := m2.lt
  have n4 := m4.lt
  have n5 := m5.lt
  rcases Nat.eq_zero_or_pos r with h0 | h0
  · subst h0
    refine T.weaken (e' := [(6, .int .i64 (-1)), (2, _), (3, _), (4, _), (5, _)]) ?_ ⟨rfl, rfl, rfl, rfl, rfl, trivial⟩
    have l5 := ls 256 (by omega)
    repeat (first | (refine TL.isMove ?_; first | refine TL.pure rfl rfl ?_) | refine TL.nil ?_ | refine thenQ_normal ?_ | refine T.seq ?_ | refine T.region ?_ | (refine TL.isBin ?_; first | refine TL.pureF rfl yD rfl ?_) | refine T.cond_false rfl ?_ | refine T.ret ?_ | refine T.exit ?_ | refine thenQ_exit ?_ | refine blockQ_hit ?_ | refine loopQ_exit ?_ | (refine TL.isLoad ?_; refine TL.loadW rfl yB (by rw [l5]; rfl) rfl ?_) | (refine TL.isStore ?_; refine TL.storeWh rfl rfl yB (by rw [l5]; rfl) (by exact rfl) (wL_one _) ?_; intro w' hu hbk hsz))
    exact retC rfl (load_whole (by assumption) (by rw [l5]; rfl)) ⟨_, rfl, rfl, yG⟩
  · obtain ⟨i, rfl⟩ : ∃ i, r = i + 1 := ⟨r - 1, by omega⟩
    have hi : i < 256 := by omega
    refine T.weaken (e' := [(6, .int .i64 (i : Int)), (2, _), (3, _), (4, _), (5, _)]) ?_ ⟨congrArg some (congrArg (Value.int .i64) (by omega)), rfl, rfl, rfl, rfl, trivial⟩
    have l5 := ls (256 - (i + 1)) (by omega)
    have hbb := byte_bit E i
    have hst := stW_succ xs E (256 - (i + 1))
    rw [show 256 - (i + 1) + 1 = 256 - i by omega, show 255 - (256 - (i + 1)) = i by omega] at hst
    have hg1 := (rep_pow hx hE (show 256 - (i + 1) ≤ 256 by omega)).1
    have hgt := times_good hg1 hg1
    have l6 : (wL (timesW (stW xs E (256 - (i + 1))) (stW xs E (256 - (i + 1))))).length = 10 := by rw [wL_len]; exact hgt.len
    have l7 : (wL (timesW (timesW (stW xs E (256 - (i + 1))) (stW xs E (256 - (i + 1)))) xs)).length = 10 := by rw [wL_len]; exact (times_good hgt hx.1).len
    generalize stW xs E (256 - (i + 1)) = s at *
    rcases Nat.mod_two_eq_zero_or_one (E / 2 ^ i) with hb | hb
    · rw [hb] at hbb
      rw [if_neg (by omega)] at hst
      repeat (first | (refine TL.isMove ?_; first | refine TL.pure rfl rfl ?_) | (refine TL.isAsg ?_; first | refine TL.pure rfl rfl ?_) | (refine TL.isIndex ?_; first | refine TL.indexA1 rfl rfl (by first | omega) rfl ?_) | (refine TL.isSub ?_; first | refine TL.subI rfl rfl (by omega) (by omega) rfl ?_) | refine TL.nil ?_ | refine thenQ_normal ?_ | refine T.seq ?_ | refine T.region ?_ | refine T.block ?_ | refine blockQ_normal ?_ | (refine TL.isShr ?_; first | refine TL.shrS rfl rfl (by first | (simp only [IntKind.bits]; omega)) rfl ?_) | (refine TL.isRem ?_; first | refine TL.remU rfl rfl (by omega) rfl ?_) | (refine TL.isQuo ?_; first | refine TL.quoN rfl rfl (by omega) (by first | omega) rfl ?_) | (refine TL.isBin ?_; first | refine TL.pureT rfl yD rfl ?_ | refine TL.pureF rfl yD rfl ?_) | (refine TL.isConv ?_; first | refine TL.convU rfl rfl (by omega) rfl ?_) | refine T.cond_true rfl ?_ | refine T.cond_false rfl ?_ | refine T.skip ?_ | (refine TL.isLoad ?_; refine TL.loadW rfl yB (by rw [l5]; rfl) rfl ?_) | (refine TL.isLoad ?_; refine TL.load1 rfl (Blk.cell yB (numL_at (by omega))) rfl ?_) | (refine TL.isFn 78 ?_; refine TL.call rfl (times_w _ _ hg1 hg1 _) rfl ?_; rintro _ _ ⟨rfl, hgc⟩) | (refine TL.isStore ?_; refine TL.storeWh rfl rfl yB (by rw [l6]; rfl) (by rw [l5]; rfl) (wL_one _) ?_; intro w' hu hbk hsz))
      rw [← hst] at hbk
      exact loopQ_normal i ⟨rfl, rfl, rfl, rfl, rfl, trivial⟩ ⟨by omega, yB, yB, yB, hbk, yG⟩ (by omega)
    · rw [hb] at hbb
      rw [if_pos hb] at hst
      repeat (first | (refine TL.isMove ?_; first | refine TL.pure rfl rfl ?_) | refine TL.nil ?_ | refine thenQ_normal ?_ | refine T.seq ?_ | refine T.region ?_ | refine T.block ?_ | (refine TL.isBin ?_; first | refine TL.pureT rfl yD rfl ?_) | refine T.cond_true rfl ?_ | refine T.skip ?_ | (refine TL.isLoad ?_; first | refine TL.loadW rfl yB (by first | (rw [l5]; rfl)) rfl ?_))
      refine TL.call rfl (times_w _ _ hg1 hg1 _) rfl ?_
      rintro _ v1 ⟨rfl, hc1⟩
      repeat (first | (refine TL.isMove ?_; first | refine TL.pure rfl rfl ?_) | (refine TL.isIndex ?_; first | refine TL.indexA1 rfl rfl (by first | omega) rfl ?_) | refine TL.nil ?_ | refine thenQ_normal ?_ | refine T.seq ?_ | refine T.region ?_ | (refine TL.isShr ?_; first | refine TL.shrS rfl rfl (by first | (simp only [IntKind.bits]; omega)) rfl ?_) | (refine TL.isRem ?_; first | refine TL.remU rfl rfl (by omega) rfl ?_) | (refine TL.isQuo ?_; first | refine TL.quoN rfl rfl (by omega) (by first | omega) rfl ?_) | (refine TL.isBin ?_; first | refine TL.pureT rfl yD rfl ?_) | (refine TL.isConv ?_; first | refine TL.convU rfl rfl (by omega) rfl ?_) | refine T.cond_true rfl ?_ | (refine TL.isStore ?_; refine TL.storeWh rfl rfl yB (by rw [l6]; rfl) (by rw [l5]; rfl) (wL_one _) ?_; intro w' hu hbk hsz) | (refine TL.isLoad ?_; first | refine TL.loadW rfl yB (by first | (rw [lx]; rfl) | (rw [l6]; rfl)) rfl ?_ | refine TL.load1 rfl (Blk.cell yB (numL_at (by omega))) rfl ?_))
      refine TL.call rfl (times_w _ _ hgt hx.1 _) rfl ?_
      rintro _ v2 ⟨rfl, hc2⟩
      repeat (first | (refine TL.isMove ?_; first | refine TL.pure rfl rfl ?_) | (refine TL.isAsg ?_; first | refine TL.pure rfl rfl ?_) | (refine TL.isSub ?_; first | refine TL.subI rfl rfl (by omega) (by omega) rfl ?_) | refine TL.nil ?_ | refine thenQ_normal ?_ | refine T.region ?_ | refine blockQ_normal ?_ | (refine TL.isStore ?_; refine TL.storeWh rfl rfl yB (by rw [l7]; rfl) (by rw [l6]; rfl) (wL_one _) ?_; intro w' hu hbk hsz))
      rw [← hst] at hbk
      exact loopQ_normal i ⟨rfl, rfl, rfl, rfl, rfl, trivial⟩ ⟨by omega, yB, yB, yB, hbk, yG⟩ (by omega)
theorem pow_r (N E : Nat) (hN : N < 115792089237316195423570985008687907853269984665640564039457584007913129639936) (hE : E < 115792089237316195423570985008687907853269984665640564039457584007913129639936) (w : World) :
    Calls Try.prog 36 #[num N, num E] w (Ret fun v w' => v = num (pw N E) ∧ Grow w w') := by
  refine V.calls (args := [_, _]) Try.func36 rfl Try.ntmps36 rfl rfl ?_
  have rN := rep_opn hN
  have rP := rep_pow rN hE (Nat.le_refl 256)
  rw [Nat.sub_self, Nat.pow_zero, Nat.div_one] at rP
  have hc := close_r rP
  rw [← pw_def] at hc
  repeat (first | refine TL.nil ?_ | refine thenQ_normal ?_ | refine T.seq ?_ | refine T.region ?_ | (refine TL.isBox ?_; first | (refine TL.boxA rfl rfl ?_; intro bk w' hg hbk hsz hsz')) | (refine TL.isAlloc ?_; first | (refine TL.alloc rfl rfl ?_; intro bk w' hg hbk hsz hsz')))
  apply T.any 5 [is _, is _, is _, is _, is _]; (· first | kernel_rfl); (· ((repeat' (first | exact allDo_end | refine allDo_cons ?_ ?_)); (iterate 5 (· ((first | refine does_mk0 rfl rfl rfl ?_); ( intro wq _ _ hgq; (repeat (refine need_cons rfl rfl ?_; intro vq hvq; try (obtain rfl := hvq))); (refine need_nil ?_)); (repeat (first | (refine TL.isLoad ?_; first | refine TL.loadW rfl yB (by exact rfl) rfl ?_) | refine TL.nil ?_ | (refine TL.isFn 75 ?_; refine TL.call rfl (opn_w _ _) rfl ?_; rintro _ _ ⟨rfl, hgc⟩) | (refine TL.isFn 79 ?_; refine TL.call rfl (power_w _ N E rN hE _) rfl ?_; rintro _ _ ⟨rfl, hgc⟩) | (refine TL.isFn 74 ?_; refine TL.call rfl (hc _) rfl ?_; rintro _ _ ⟨rfl, hgc⟩))); first | exact one_end rfl yG rfl))))); (rintro _ _ _ hgr _ _; (repeat (refine need_cons rfl rfl ?_; intro vq hvq; try (obtain rfl := hvq))); (refine need_nil ?_))
  repeat (first | refine TL.nil ?_ | refine thenQ_normal ?_ | (refine TL.isStore ?_; first | (refine TL.storeWh rfl rfl yB (by exact rfl) (by exact rfl) (by exact rfl) ?_; intro w' hu hbk hsz)) | refine T.ret ?_)
  exact retC rfl (load_whole (by assumption) rfl) ⟨_, rfl, rfl, yG⟩
end Go.Proofs.Ytmpjigghgedjbaa
namespace Go.Proofs.Ytmpjigghgedjbaa
open Go Go.RowKit Go.V
def mixB (A B : Nat → Nat) (i : Nat) : List Value := (List.range 32).map fun j => if j < i then B1 (B j) else B1 (A j)
theorem mixB_len (A B : Nat → Nat) (i : Nat) : (mixB A B i).length = 32 := by unfold mixB; simp
theorem mixB_at (A B : Nat → Nat) (i : Nat) {j : Nat} (hj : j < 32) : (mixB A B i)[j]? = some (if j < i then B1 (B j) else B1 (A j)) := by
  unfold mixB; rw [List.getElem?_map, List.getElem?_range hj]; rfl
theorem mixB_here (A B : Nat → Nat) {i : Nat} (hi : i < 32) : (mixB A B i)[i]? = some (B1 (A i)) := by rw [mixB_at _ _ _ hi, if_neg (by omega)]
theorem mixB_next (A B : Nat → Nat) (i : Nat) (hi : i + 1 < 32) : (mixB A B i)[i + 1]? = some (B1 (A (i + 1))) := by rw [mixB_at _ _ _ hi, if_neg (by omega)]
theorem mixB_set (A B : Nat → Nat) {i x : Nat} (hi : i < 32) (hx : x = B i) : (mixB A B i).set i (B1 x) = mixB A B (i + 1) := by
  refine List.ext_getElem? fun j => ?_
  rw [List.getElem?_set]
  rcases Nat.lt_or_ge j 32 with hj | hj
  · by_cases h : i = j
    · subst h; rw [if_pos rfl, if_pos (by rw [mixB_len]; exact hi), mixB_at _ _ _ hj, if_pos (by omega), hx]
    · rw [if_neg h, mixB_at _ _ _ hj, mixB_at _ _ _ hj]
      by_cases h2 : j < i
      · rw [if_pos h2, if_pos (by omega)]
      · rw [if_neg h2, if_neg (by omega)]
  · rw [if_neg (by omega), List.getElem?_eq_none (by rw [mixB_len]; exact hj), List.getElem?_eq_none (by rw [mixB_len]; exact hj)]
theorem mixS_here (A B : Nat → Nat) {i x : Nat} (hi : i < 32) : ((mixB A B i).set i (B1 x))[i]? = some (B1 x) := by rw [List.getElem?_set, if_pos rfl, if_pos (by rw [mixB_len]; exact hi)]
theorem mixS_next (A B : Nat → Nat) {i x : Nat} (hi : i + 1 < 32) : ((mixB A B i).set i (B1 x))[i + 1]? = some (B1 (A (i + 1))) := by rw [List.getElem?_set, if_neg (by omega), mixB_next _ _ _ hi]
theorem mixB_over (A B : Nat → Nat) {i x : Nat} (hi : i < 32) : ((mixB A B i).set i (B1 x)).set i (B1 (B i)) = mixB A B (i + 1) := by rw [List.set_set]; exact mixB_set A B hi rfl
theorem mixB_0 {A B : Nat → Nat} {N : Nat} (h : ∀ i, i < 32 → A i = byteN N i) : mixB A B 0 = numL N := numL_ext (mixB_len _ _ _) fun i hi => by rw [mixB_at _ _ _ hi, if_neg (by omega), h i hi]
theorem mixB_32 {A B : Nat → Nat} {N : Nat} (h : ∀ i, i < 32 → B i = byteN N i) : mixB A B 32 = numL N := numL_ext (mixB_len _ _ _) fun i hi => by rw [mixB_at _ _ _ hi, if_pos hi, h i hi]
theorem byteN_0 (i : Nat) : byteN 0 i = 0 := by unfold byteN; rw [Nat.zero_div]
theorem byte_high {n i : Nat} (hn : n < 18446744073709551616) (hi : 8 ≤ i) : byteN n i = 0 := by
  unfold byteN
  have : 256 ^ 8 ≤ 256 ^ i := Nat.pow_le_pow_right (by decide) hi
  rw [Nat.div_eq_of_lt (by have : (256 : Nat) ^ 8 = 18446744073709551616 := by decide
                           omega)]
theorem byte_shift (n i : Nat) : n / 2 ^ (8 * i) % 256 = byteN n i := by unfold byteN; rw [two_256]
attribute [irreducible] mixB
set_option maxHeartbeats 2000000 in
set_option maxRecDepth 10000 in
theorem of_r (n : Nat) (hn : n < 18446744073709551616) (w : World) :
    Calls Try.prog 29 #[W1 n] w (Ret fun v w' => v = num n ∧ Grow w w') := by
  refine V.calls (args := [_]) Try.func29 rfl Try.ntmps29 rfl rfl ?_
  repeat (first | (refine TL.isAsg ?_; first | refine TL.pure rfl rfl ?_) | refine TL.nil ?_ | refine thenQ_normal ?_ | refine T.seq ?_ | refine T.region ?_ | refine T.block ?_ | (refine TL.isAlloc ?_; first | (refine TL.alloc rfl rfl ?_; intro bk w' hg hbk hsz hsz')))
  rename_i b1 w1 gg1 k1 s1 t1
  have m1 : Blk w' b1 23 (numL 0) := by exact yB
  have m2 : Blk w' bk 23 (mixB (fun _ => 0) (byteN n) 0) := by rw [mixB_0 (N := 0) (fun i _ => (byteN_0 i).symm)]; exact hbk
  have hw1 : w.heap.size ≤ b1 := by omega
  have hw2 : w.heap.size ≤ bk := by omega
  have ne : b1 ≠ bk := by omega
  have hG : Grow w w' := by exact yG
  refine T.loop (S := Nat) (fun i => [(4, .int .i64 (i : Int)), (0, W1 n), (2, .pointer (some ⟨b1, 0, none⟩)), (3, .pointer (some ⟨bk, 0, none⟩))])
    (fun i v => i ≤ 8 ∧ Blk v b1 23 (numL 0) ∧ Blk v bk 23 (mixB (fun _ => 0) (byteN n) i) ∧ Grow w v) (fun i => 8 - i) 0 ⟨rfl, rfl, rfl, rfl, trivial⟩
    ⟨by omega, m1, m2, hG⟩ ?_
  clear m1 m2 hG hbk k1 gg1 hg s1 t1 hsz hsz'
  rintro i v ⟨hi, m1, m2, hG⟩
  have n1 := m1.lt
  have n2 := m2.lt
  rcases Nat.lt_or_ge i 8 with hlt | hge
  · repeat (first | (refine TL.isMove ?_; first | refine TL.pure rfl rfl ?_) | (refine TL.isIndex ?_; first | refine TL.indexA1 rfl rfl (by first | omega) rfl ?_) | (refine TL.isMul ?_; first | refine TL.mulN rfl rfl (by first | omega) rfl ?_) | refine TL.nil ?_ | refine thenQ_normal ?_ | refine T.seq ?_ | refine T.region ?_ | refine T.block ?_ | (refine TL.isShr ?_; first | refine TL.shrS rfl rfl (by first | (simp only [IntKind.bits]; omega)) rfl ?_) | (refine TL.isBin ?_; first | refine TL.pureT rfl yD rfl ?_) | (refine TL.isConv ?_; first | refine TL.convU rfl rfl (by omega) rfl ?_ | refine TL.convW rfl rfl rfl ?_) | refine T.cond_true rfl ?_ | refine T.skip ?_)
    refine TL.storeS rfl rfl yB (by exact rfl) (by rw [mixB_len]; omega) ?_
    intro w3 hu3 hbk3 hsz3
    rw [mixB_set _ _ (by omega) (byte_shift n i)] at hbk3
    repeat (first | (refine TL.isMove ?_; first | refine TL.pure rfl rfl ?_) | (refine TL.isAsg ?_; first | refine TL.pure rfl rfl ?_) | (refine TL.isAdd ?_; first | refine TL.addN rfl rfl (by first | omega) rfl ?_) | refine TL.nil ?_ | refine thenQ_normal ?_ | refine T.region ?_ | refine blockQ_normal ?_)
    exact loopQ_normal (i + 1) ⟨rfl, rfl, rfl, rfl, trivial⟩ ⟨by omega, yB, hbk3, yG⟩ (by omega)
  · obtain rfl : i = 8 := by omega
    have e : mixB (fun _ => 0) (byteN n) 8 = numL n := numL_ext (mixB_len _ _ _) fun i hi => by
      rw [mixB_at _ _ _ hi]
      by_cases h : i < 8
      · rw [if_pos h]
      · rw [if_neg h, byte_high hn (by omega)]
    rw [e] at m2
    repeat (first | (refine TL.isMove ?_; first | refine TL.pure rfl rfl ?_) | (refine TL.isLoad ?_; first | refine TL.loadW rfl yB (by exact rfl) rfl ?_) | refine TL.nil ?_ | refine thenQ_normal ?_ | refine T.seq ?_ | refine T.region ?_ | (refine TL.isBin ?_; first | refine TL.pureF rfl yD rfl ?_) | (refine TL.isStore ?_; first | (refine TL.storeWh rfl rfl yB (by exact rfl) (by exact rfl) (by exact rfl) ?_; intro w' hu hbk hsz)) | refine T.cond_false rfl ?_ | refine T.ret ?_ | refine T.exit ?_ | refine thenQ_exit ?_ | refine blockQ_hit ?_ | refine loopQ_exit ?_)
    exact retC rfl (load_whole (by assumption) rfl) ⟨_, rfl, rfl, yG⟩
theorem p_bytes5 : ∀ i, i < 32 → byteN (p25519 - 5) i = if i = 0 then 232 else if i = 31 then 127 else 255 := by decide +kernel
theorem p_bytes2 : ∀ i, i < 32 → byteN (p25519 - 2) i = if i = 0 then 235 else if i = 31 then 127 else 255 := by decide +kernel
theorem p_bytes1 : ∀ i, i < 32 → byteN (p25519 - 1) i = if i = 0 then 236 else if i = 31 then 127 else 255 := by decide +kernel
theorem p_set {n : Nat} (h : ∀ i, i < 32 → byteN (p25519 - n) i = if i = 0 then 237 - n else if i = 31 then 127 else 255) (A : Nat → Nat) :
    ((mixB A (fun _ => 255) 32).set 0 (B1 (237 - n))).set 31 (B1 127) = numL (p25519 - n) := by
  refine numL_ext (by simp [mixB_len]) fun i hi => ?_
  rw [h i hi, List.getElem?_set, List.getElem?_set]
  by_cases h1 : 31 = i
  · subst h1; rw [if_pos rfl, if_pos (by simp [mixB_len]), if_neg (by omega), if_pos rfl]
  · rw [if_neg h1]
    by_cases h0 : 0 = i
    · subst h0; rw [if_pos rfl, if_pos (by rw [mixB_len]; omega), if_pos rfl]
    · rw [if_neg h0, mixB_at _ _ _ hi, if_pos hi, if_neg (by omega), if_neg (by omega)]
theorem half_byte {M : Nat} (i : Nat) : byteN (M / 2) i = byteN M i / 2 + 128 * (byteN M (i + 1) % 2) := by
  unfold byteN
  rw [Nat.div_div_eq_div_mul, Nat.mul_comm, ← Nat.div_div_eq_div_mul, Nat.pow_succ, ← Nat.div_div_eq_div_mul]
  omega
theorem byte_top {M : Nat} (h : M < 115792089237316195423570985008687907853269984665640564039457584007913129639936) : byteN M 32 = 0 := by
  have : M / 115792089237316195423570985008687907853269984665640564039457584007913129639936 % 256 = 0 := by omega
  exact this
def halves (M : Nat) : Nat → Nat
  | 0 => M
  | k + 1 => halves M k / 2
theorem halves_lt {M : Nat} (h : M < 115792089237316195423570985008687907853269984665640564039457584007913129639936) : ∀ k, halves M k < 115792089237316195423570985008687907853269984665640564039457584007913129639936
  | 0 => h
  | k + 1 => by unfold halves; have := halves_lt h k; omega
set_option maxHeartbeats 4000000 in
set_option maxRecDepth 10000 in
theorem shifted_r (n k : Nat) (hk : k ≤ 3) (hn : n < 100) (hp : ∀ i, i < 32 → byteN (p25519 - n) i = if i = 0 then 237 - n else if i = 31 then 127 else 255) (w : World) :
    Calls Try.prog 73 #[.int .i64 (n : Int), .int .i64 (k : Int)] w (Ret fun v w' => v = num (halves (p25519 - n) k) ∧ Grow w w') := by
  refine V.calls (args := [_, _]) Try.func73 rfl Try.ntmps73 rfl rfl ?_
  have hbig : p25519 - n < 115792089237316195423570985008687907853269984665640564039457584007913129639936 := by unfold p25519; omega
  repeat (first | (refine TL.isAsg ?_; first | refine TL.pure rfl rfl ?_) | refine TL.nil ?_ | refine thenQ_normal ?_ | refine T.seq ?_ | refine T.region ?_ | refine T.block ?_ | (refine TL.isAlloc ?_; first | (refine TL.alloc rfl rfl ?_; intro bk w' hg hbk hsz hsz')))
  rename_i b1 w1 gg1 k1 s1 t1
  have m1 : Blk w' b1 23 (numL 0) := by exact yB
  have m2 : Blk w' bk 23 (mixB (fun _ => 0) (fun _ => 255) 0) := by rw [mixB_0 (N := 0) (fun i _ => (byteN_0 i).symm)]; exact hbk
  have hw1 : w.heap.size ≤ b1 := by omega
  have hw2 : w.heap.size ≤ bk := by omega
  have ne : b1 ≠ bk := by omega
  have hG : Grow w w' := by exact yG
  refine T.loop (S := Nat) (fun i => [(6, .int .i64 (i : Int)), (0, .int .i64 (n : Int)), (1, .int .i64 (k : Int)), (4, .pointer (some ⟨b1, 0, none⟩)), (5, .pointer (some ⟨bk, 0, none⟩))])
    (fun i v => i ≤ 32 ∧ Blk v b1 23 (numL 0) ∧ Blk v bk 23 (mixB (fun _ => 0) (fun _ => 255) i) ∧ Grow w v) (fun i => 32 - i) 0 ⟨rfl, rfl, rfl, rfl, rfl, trivial⟩
    ⟨by omega, m1, m2, hG⟩ ?_
  clear m1 m2 hG hbk k1 gg1 hg s1 t1 hsz hsz'
  rintro i v ⟨hi, m1, m2, hG⟩
  have n1 := m1.lt
  have n2 := m2.lt
  rcases Nat.lt_or_ge i 32 with hlt | hge
  · repeat (first | (refine TL.isMove ?_; first | refine TL.pure rfl rfl ?_) | (refine TL.isIndex ?_; first | refine TL.indexA1 rfl rfl (by first | omega) rfl ?_) | refine TL.nil ?_ | refine thenQ_normal ?_ | refine T.seq ?_ | refine T.region ?_ | refine T.block ?_ | (refine TL.isBin ?_; first | refine TL.pureT rfl yD rfl ?_) | refine T.cond_true rfl ?_ | refine T.skip ?_)
    refine TL.storeS rfl rfl yB (by exact rfl) (by rw [mixB_len]; omega) ?_
    intro w3 hu3 hbk3 hsz3
    rw [show Value.int .u8 255 = B1 255 from rfl, mixB_set _ _ (by omega) rfl] at hbk3
    repeat (first | (refine TL.isMove ?_; first | refine TL.pure rfl rfl ?_) | (refine TL.isAsg ?_; first | refine TL.pure rfl rfl ?_) | (refine TL.isAdd ?_; first | refine TL.addN rfl rfl (by first | omega) rfl ?_) | refine TL.nil ?_ | refine thenQ_normal ?_ | refine T.region ?_ | refine blockQ_normal ?_)
    exact loopQ_normal (i + 1) ⟨rfl, rfl, rfl, rfl, rfl, trivial⟩ ⟨by omega, yB, hbk3, yG⟩ (by omega)
  obtain rfl : i = 32 := by omega
  repeat (first | (refine TL.isMove ?_; first | refine TL.pure rfl rfl ?_) | (refine TL.isIndex ?_; first | refine TL.indexA1 rfl rfl (by first | omega) rfl ?_) | (refine TL.isSub ?_; first | refine TL.subN rfl rfl (by first | omega) (by first | omega) rfl ?_) | refine TL.nil ?_ | refine thenQ_normal ?_ | refine T.seq ?_ | refine T.region ?_ | (refine TL.isBin ?_; first | refine TL.pureF rfl yD rfl ?_) | (refine TL.isConv ?_; first | refine TL.convU rfl rfl (by omega) rfl ?_) | refine T.cond_false rfl ?_ | refine T.exit ?_ | refine thenQ_exit ?_ | refine blockQ_hit ?_ | refine loopQ_exit ?_)
  refine TL.storeS rfl rfl yB (by exact rfl) (by rw [mixB_len]; omega) ?_
  intro w3 hu3 hbk3 hsz3
  repeat (first | (refine TL.isIndex ?_; first | refine TL.indexA1 rfl rfl (by first | omega) rfl ?_))
  refine TL.storeS rfl rfl yB (by exact rfl) (by rw [List.length_set, mixB_len]; omega) ?_
  intro w4 hu4 hbk4 hsz4
  have m3 : Blk w4 bk 23 (numL (halves (p25519 - n) (k - k))) := by
    rw [Nat.sub_self]
    show Blk w4 bk _ (numL (p25519 - n))
    rw [← p_set hp (fun _ => 0)]
    exact hbk4
  have m1' : Blk w4 b1 23 (numL 0) := by exact yB
  have hG4 : Grow w w4 := by exact yG
  clear hbk3 hbk4 m1 m2 hu3 hu4 hG n1 n2 hsz3 hsz4 hi hge
  repeat (first | refine TL.nil ?_ | refine thenQ_normal ?_ | refine T.seq ?_ | refine T.block ?_)
  refine T.loop (S := Nat) (fun m => [(1, .int .i64 (m : Int)), (4, .pointer (some ⟨b1, 0, none⟩)), (5, .pointer (some ⟨bk, 0, none⟩))])
    (fun m v => m ≤ k ∧ Blk v b1 23 (numL 0) ∧ Blk v bk 23 (numL (halves (p25519 - n) (k - m))) ∧ Grow w v) (fun m => m) k ⟨rfl, rfl, rfl, trivial⟩
    ⟨by omega, m1', m3, hG4⟩ ?_
  clear m1' m3 hG4 v w3 w4
  rintro m v ⟨hm, m1, m2, hG⟩
  have n1 := m1.lt
  have n2 := m2.lt
  rcases Nat.eq_zero_or_pos m with h0 | h0
  · subst h0
    repeat (first | (refine TL.isMove ?_; first | refine TL.pure rfl rfl ?_) | (refine TL.isLoad ?_; first | refine TL.loadW rfl yB (by exact rfl) rfl ?_) | refine TL.nil ?_ | refine thenQ_normal ?_ | refine T.seq ?_ | refine T.region ?_ | (refine TL.isBin ?_; first | refine TL.pureF rfl yD rfl ?_) | (refine TL.isStore ?_; first | (refine TL.storeWh rfl rfl yB (by exact rfl) (by exact rfl) (by exact rfl) ?_; intro w' hu hbk hsz)) | refine T.cond_false rfl ?_ | refine T.ret ?_ | refine T.exit ?_ | refine thenQ_exit ?_ | refine blockQ_hit ?_ | refine loopQ_exit ?_)
    exact retC rfl (load_whole (by assumption) rfl) ⟨_, rfl, rfl, yG⟩
  have hHlt := halves_lt hbig (k - m)
  have hsucc : halves (p25519 - n) (k - (m - 1)) = halves (p25519 - n) (k - m) / 2 := by
    rw [show k - (m - 1) = (k - m) + 1 by omega, halves]
  generalize halves (p25519 - n) (k - m) = H at *
  repeat (first | (refine TL.isMove ?_; first | refine TL.pure rfl rfl ?_) | (refine TL.isAsg ?_; first | refine TL.pure rfl rfl ?_) | refine TL.nil ?_ | refine thenQ_normal ?_ | refine T.seq ?_ | refine T.region ?_ | refine T.block ?_ | (refine TL.isBin ?_; first | refine TL.pureT rfl yD rfl ?_) | refine T.cond_true rfl ?_ | refine T.skip ?_)
  refine T.loop (S := Nat) (fun j => [(7, .int .i64 (j : Int)), (1, .int .i64 (m : Int)), (4, .pointer (some ⟨b1, 0, none⟩)), (5, .pointer (some ⟨bk, 0, none⟩))])
    (fun j v => j ≤ 32 ∧ Blk v b1 23 (numL 0) ∧ Blk v bk 23 (mixB (byteN H) (byteN (H / 2)) j) ∧ Grow w v) (fun j => 32 - j) 0 ⟨rfl, rfl, rfl, rfl, trivial⟩
    ⟨by omega, m1, by rw [mixB_0 (fun _ _ => rfl)]; exact m2, hG⟩ ?_
  clear m1 m2 hG v n1 n2
  rintro j v ⟨hj, m1, m2, hG⟩
  have n1 := m1.lt
  have n2 := m2.lt
  rcases Nat.lt_or_ge j 32 with hlt | hge
  · have hbj := byteN_lt H j
    have hh := half_byte (M := H) j
    have l1 : (mixB (byteN H) (byteN (H / 2)) j)[j]? = some (B1 (byteN H j)) := mixB_here _ _ hlt
    have l2 : ((mixB (byteN H) (byteN (H / 2)) j).set j (B1 (byteN H j / 2)))[j]? = some (B1 (byteN H j / 2)) := mixS_here _ _ hlt
    have fin : ∀ v' x, x = byteN (H / 2) j → Blk v' bk 23 ((mixB (byteN H) (byteN (H / 2)) j).set j (B1 x)) → Blk v' bk 23 (mixB (byteN H) (byteN (H / 2)) (j + 1)) := by
      intro v' x hx hb
      rw [mixB_set _ _ hlt hx] at hb
      exact hb
    repeat (first | (refine TL.isMove ?_; first | refine TL.pure rfl rfl ?_) | (refine TL.isIndex ?_; first | refine TL.indexA1 rfl rfl (by first | omega) rfl ?_) | refine TL.nil ?_ | refine thenQ_normal ?_ | refine T.seq ?_ | refine T.region ?_ | refine T.block ?_ | (refine TL.isQuo ?_; first | refine TL.quoU rfl rfl rfl (by omega) (by first | omega) rfl ?_) | (refine TL.isBin ?_; first | refine TL.pureT rfl yD rfl ?_) | refine T.cond_true rfl ?_ | refine T.skip ?_ | (refine TL.isLoad ?_; refine TL.load1 rfl (Blk.cell yB l1) rfl ?_))
    refine TL.storeS rfl rfl yB (by exact rfl) (by rw [mixB_len]; omega) ?_
    intro w3 hu3 hbk3 hsz3
    have m13 : Blk w3 b1 23 (numL 0) := by exact yB
    have hG3 : Grow w w3 := by exact yG
    have n13 := m13.lt
    have n23 := hbk3.lt
    rcases Nat.lt_or_ge j 31 with h31 | h31
    · have l3 : ((mixB (byteN H) (byteN (H / 2)) j).set j (B1 (byteN H j / 2)))[j + 1]? = some (B1 (byteN H (j + 1))) := mixS_next _ _ (by omega)
      rcases Nat.mod_two_eq_zero_or_one (byteN H (j + 1)) with hb | hb
      · repeat (first | (refine TL.isGuard ?_; first | refine TL.guard_run rfl rfl rfl ?_) | (refine TL.isMove ?_; first | refine TL.pure rfl rfl ?_) | (refine TL.isAsg ?_; first | refine TL.pure rfl rfl ?_) | (refine TL.isIndex ?_; first | refine TL.indexA1 rfl rfl (by first | omega) rfl ?_) | (refine TL.isAdd ?_; first | refine TL.addN rfl rfl (by first | omega) rfl ?_) | refine TL.nil ?_ | refine thenQ_normal ?_ | refine T.seq ?_ | refine T.region ?_ | refine blockQ_normal ?_ | (refine TL.isRem ?_; first | refine TL.remU rfl rfl (by omega) rfl ?_) | (refine TL.isBin ?_; first | refine TL.pureT rfl yD rfl ?_ | refine TL.pureF rfl yD rfl ?_) | refine T.cond_false rfl ?_ | refine T.skip ?_ | refine TL.pure rfl rfl ?_ | (refine TL.isLoad ?_; refine TL.load1 rfl (Blk.cell yB l3) rfl ?_))
        exact loopQ_normal (j + 1) ⟨rfl, rfl, rfl, rfl, trivial⟩ ⟨by omega, yB, fin _ _ (by omega) hbk3, yG⟩ (by omega)
      · repeat (first | (refine TL.isGuard ?_; first | refine TL.guard_run rfl rfl rfl ?_) | (refine TL.isMove ?_; first | refine TL.pure rfl rfl ?_) | (refine TL.isIndex ?_; first | refine TL.indexA1 rfl rfl (by first | omega) rfl ?_) | (refine TL.isAdd ?_; first | refine TL.addN rfl rfl (by first | omega) rfl ?_ | refine TL.addU rfl rfl rfl (by omega) rfl ?_) | refine TL.nil ?_ | refine thenQ_normal ?_ | refine T.seq ?_ | refine T.region ?_ | (refine TL.isRem ?_; first | refine TL.remU rfl rfl (by omega) rfl ?_) | (refine TL.isBin ?_; first | refine TL.pureT rfl yD rfl ?_) | refine T.cond_true rfl ?_ | refine TL.pure rfl rfl ?_ | (refine TL.isLoad ?_; first | refine TL.load1 rfl (Blk.cell yB l3) rfl ?_ | refine TL.load1 rfl (Blk.cell yB l2) rfl ?_))
        refine TL.storeS rfl rfl yB (by exact rfl) (by rw [List.length_set, mixB_len]; omega) ?_
        intro w5 hu5 hbk5 hsz5
        rw [List.set_set] at hbk5
        repeat (first | (refine TL.isMove ?_; first | refine TL.pure rfl rfl ?_) | (refine TL.isAsg ?_; first | refine TL.pure rfl rfl ?_) | (refine TL.isAdd ?_; first | refine TL.addN rfl rfl (by first | omega) rfl ?_) | refine TL.nil ?_ | refine thenQ_normal ?_ | refine T.region ?_ | refine blockQ_normal ?_)
        exact loopQ_normal (j + 1) ⟨rfl, rfl, rfl, rfl, trivial⟩ ⟨by omega, yB, fin _ _ (by omega) hbk5, yG⟩ (by omega)
    · obtain rfl : j = 31 := by omega
      have h32 : byteN H (31 + 1) = 0 := byte_top hHlt
      repeat (first | (refine TL.isGuard ?_; first | refine TL.guard_skip rfl rfl rfl ?_) | (refine TL.isMove ?_; first | refine TL.pure rfl rfl ?_) | (refine TL.isAsg ?_; first | refine TL.pure rfl rfl ?_) | (refine TL.isAdd ?_; first | refine TL.addN rfl rfl (by first | omega) rfl ?_) | refine TL.nil ?_ | refine thenQ_normal ?_ | refine T.seq ?_ | refine T.region ?_ | refine blockQ_normal ?_ | (refine TL.isBin ?_; first | refine TL.pureF rfl yD rfl ?_) | refine T.cond_false rfl ?_ | refine T.skip ?_ | refine TL.pure rfl rfl ?_)
      exact loopQ_normal 32 ⟨rfl, rfl, rfl, rfl, trivial⟩ ⟨by omega, yB, fin _ _ (by omega) hbk3, yG⟩ (by omega)
  · obtain rfl : j = 32 := by omega
    rw [mixB_32 (fun _ _ => rfl), ← hsucc] at m2
    repeat (first | (refine TL.isMove ?_; first | refine TL.pure rfl rfl ?_) | (refine TL.isAsg ?_; first | refine TL.pure rfl rfl ?_) | (refine TL.isSub ?_; first | refine TL.subN rfl rfl (by first | omega) (by first | omega) rfl ?_) | refine TL.nil ?_ | refine thenQ_normal ?_ | refine T.seq ?_ | refine T.region ?_ | refine blockQ_normal ?_ | (refine TL.isBin ?_; first | refine TL.pureF rfl yD rfl ?_) | refine T.cond_false rfl ?_ | refine T.exit ?_ | refine thenQ_exit ?_ | refine blockQ_hit ?_ | refine loopQ_exit ?_)
    exact loopQ_normal (m - 1) ⟨rfl, rfl, rfl, trivial⟩ ⟨by omega, yB, m2, yG⟩ (by omega)
theorem inv_r (N : Nat) (hN : N < 115792089237316195423570985008687907853269984665640564039457584007913129639936) (w : World) :
    Calls Try.prog 37 #[num N] w (Ret fun v w' => v = num (pw N 57896044618658097711785492504343953926634992332820282019728792003956564819947) ∧ Grow w w') := by
  refine V.calls (args := [_]) Try.func37 rfl Try.ntmps37 rfl rfl ?_
  have hs := shifted_r 2 0 (by decide) (by decide) p_bytes2
  rw [show halves (p25519 - 2) 0 = 57896044618658097711785492504343953926634992332820282019728792003956564819947 from by decide +kernel] at hs
  repeat (first | refine TL.nil ?_ | refine thenQ_normal ?_ | refine T.seq ?_ | refine T.region ?_ | (refine TL.isBox ?_; first | (refine TL.boxA rfl rfl ?_; intro bk w' hg hbk hsz hsz')) | (refine TL.isAlloc ?_; first | (refine TL.alloc rfl rfl ?_; intro bk w' hg hbk hsz hsz')))
  apply T.any 3 [is _, is _, is _]; (· first | kernel_rfl); (· ((repeat' (first | exact allDo_end | refine allDo_cons ?_ ?_)); (iterate 3 (· ((first | refine does_mk0 rfl rfl rfl ?_); ( intro wq _ _ hgq; (repeat (refine need_cons rfl rfl ?_; intro vq hvq; try (obtain rfl := hvq))); (refine need_nil ?_)); (repeat (first | (refine TL.isLoad ?_; first | refine TL.loadW rfl yB (by exact rfl) rfl ?_) | refine TL.nil ?_ | (refine TL.isFn 73 ?_; refine TL.call rfl (hs _) rfl ?_; rintro _ _ ⟨rfl, hgc⟩) | (refine TL.isFn 36 ?_; refine TL.call rfl (pow_r N _ hN (by decide) _) rfl ?_; rintro _ _ ⟨rfl, hgc⟩))); first | exact one_end rfl yG rfl))))); (rintro _ _ _ hgr _ _; (repeat (refine need_cons rfl rfl ?_; intro vq hvq; try (obtain rfl := hvq))); (refine need_nil ?_))
  repeat (first | refine TL.nil ?_ | refine thenQ_normal ?_ | (refine TL.isStore ?_; first | (refine TL.storeWh rfl rfl yB (by exact rfl) (by exact rfl) (by exact rfl) ?_; intro w' hu hbk hsz)) | refine T.ret ?_)
  exact retC rfl (load_whole (by assumption) rfl) ⟨_, rfl, rfl, yG⟩
end Go.Proofs.Ytmpjigghgedjbaa
namespace Go.Proofs.Ytmpjigghgedjbaa
open Go Go.RowKit Go.V Go.N Go.E
set_option maxRecDepth 1000000
theorem gOf_r (K : Know) : @GOk K.gl Try.prog 29 gOf := by
  letI := K.gl
  intro vs v hv ρ xs w hvs
  unfold gOf at hv
  split at hv
  · rename_i n
    cases hv
    obtain ⟨a, rfl, ha⟩ := hvs.one
    have ha := ha.atom
    cases ha with
    | int _ _ hn =>
      have hn : n < 18446744073709551616 := hn
      rw [show IntKind.u64.wrap (n : Int) = (n : Int) from wrap_lo (k := .u64) hn]
      refine (of_r n hn w).mono fun en w' ⟨v, e1, e2, e3⟩ => ⟨v, e1, ?_, e3⟩
      rw [e2, show num n = .agg (bcells 32 n).toArray by rw [← numL_b]]
      exact .agg _ _ (.bys 32 n (Nat.lt_trans hn (by decide)))
  · cases hv
def nfC : List (Ex × Ex) := [(.f 22 (.c 7237005577332262213973186563042994240857116359379907606001950938285454250989) (.c 1), .c 0)]
noncomputable def conCN : List (Nat × Con) :=
  (40, conOf gTrue) :: (47, conOf (gMulP [.c 1] nfC)) :: (35, conOfN (n2 fun a b => Nat.mod (Nat.mul a b) p25519)) ::
  (34, conOfN (n1 fun a => Nat.mod (Nat.sub p25519 (Nat.mod a p25519)) p25519)) :: (37, conOfN (n1 fun a => pm p25519 256 a 57896044618658097711785492504343953926634992332820282019728792003956564819947)) ::
  (29, conOf gOf) :: conN
theorem conCN_ok (K : Know) (i : LoopTab) (f : Nat) (c : Con) (h : (f, c) ∈ conCN) : @ConOk i K.gl Try.prog f c := by
  letI := K.gl
  letI := i
  have pb : pe K (.c 1) = baseP := (Eq.refl _).trans (Eq.refl _)
  have pz : pe K (.c 0) = zeroP := (Eq.refl _).trans (Eq.refl _)
  have dl : dn K (.c 7237005577332262213973186563042994240857116359379907606001950938285454250989) = 7237005577332262213973186563042994240857116359379907606001950938285454250989 := (Eq.refl _).trans (Eq.refl _)
  simp only [conCN, List.mem_cons, Prod.mk.injEq] at h
  rcases h with ⟨rfl, rfl⟩ | ⟨rfl, rfl⟩ | ⟨rfl, rfl⟩ | ⟨rfl, rfl⟩ | ⟨rfl, rfl⟩ | ⟨rfl, rfl⟩ | h
  · exact conOf_ok fn40 (gTrue_ok K)
  · refine conOf_ok fn47 (gMulP_ok K (fun e he => ?_) (fun p hp => ?_))
    · rw [List.mem_singleton] at he; subst he; rw [pb]; exact base_val
    · simp only [nfC, List.mem_singleton] at hp; subst hp; rw [pe_mul, pb, pz, dl]; exact base_order
  · exact conOfN_ok fn35 (n2_ok (fun a b => mod_big _) mul_r)
  · exact conOfN_ok fn34 (n1_ok (fun a => mod_big _) neg_r)
  · exact conOfN_ok fn37 (n1_ok (fun a => by rw [← pw_pm (by decide)]; exact pw_big _ _) (fun N hN w => by have := inv_r N hN w; rw [pw_pm (by decide)] at this; exact this))
  · exact conOf_ok fn29 (gOf_r K)
  · exact conN_ok K i f c (by simpa [conN] using h)
theorem names5_run (K : Know) : (letI := K.gl; callN false (ctxL conCN) true 20 0 0 (.fn 12) [] .lf 0 (fun v _ _ => sameVv v (.at (.bool true)))) = true := by kernel_rfl
theorem names5_c (w : World) : Calls Try.prog 12 #[] w (Ret fun v w' => v = .bool true ∧ Grow w w') := by
  obtain ⟨I, hI⟩ := inv_ex
  obtain ⟨K, hK⟩ : ∃ K, K = know hI fun _ => (0, zeroP) := ⟨_, rfl⟩
  exact run_true K (conCN_ok K) (fi := fiOf Try.f12) (by kernel_rfl) (by kernel_rfl) (xs := []) (fun ρ => by letI := K.gl; exact .nil) (names5_run K) w
end Go.Proofs.Ytmpjigghgedjbaa
