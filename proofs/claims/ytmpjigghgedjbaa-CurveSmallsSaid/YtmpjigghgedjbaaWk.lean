import Derived.Test.YtmpjigghgedjbaaWj
import Derived.Test.YtmpjigghgedjbaaWi
set_option linter.unusedSimpArgs false
set_option linter.unusedVariables false
set_option linter.unusedSectionVars false
namespace Go.Proofs.Ytmpjigghgedjbaa
open Go Go.RowKit Go.V
def LN : Nat := 7237005577332262213973186563042994240857116359379907606001950938285454250989
def ctd : Nat → Value
  | 0 => .int .i64 (-1)
  | k + 1 => .int .i64 (k : Int)
theorem ctd_at (k : Nat) : some (Value.int .i64 ((k : Int) - 1)) = some (ctd k) := by
  cases k with
  | zero => rfl
  | succ k => exact congrArg (fun z => some (Value.int .i64 z)) (by omega)
theorem div_step (A k : Nat) : A / 256 ^ k = A / 256 ^ (k + 1) * 256 + byteN A k := by
  unfold byteN
  rw [Nat.pow_succ, ← Nat.div_div_eq_div_mul]; omega
theorem lt_of_byte {A B k : Nat} (h : A / 256 ^ (k + 1) = B / 256 ^ (k + 1)) (hne : byteN A k ≠ byteN B k) : (byteN A k < byteN B k) ↔ A < B := by
  have h1 := div_step A k
  have h2 := div_step B k
  rw [h] at h1
  have hp : 0 < 256 ^ k := Nat.pow_pos (by decide)
  constructor
  · intro h3
    have : A / 256 ^ k < B / 256 ^ k := by omega
    rw [Nat.div_lt_iff_lt_mul hp] at this
    exact Nat.lt_of_lt_of_le this (Nat.div_mul_le_self B (256 ^ k))
  · intro h3
    have : A / 256 ^ k ≤ B / 256 ^ k := Nat.div_le_div_right (Nat.le_of_lt h3)
    omega
set_option maxHeartbeats 4000000 in
set_option maxRecDepth 20000 in
theorem below_c (A B : Nat) (hA : A < 115792089237316195423570985008687907853269984665640564039457584007913129639936) (hB : B < 115792089237316195423570985008687907853269984665640564039457584007913129639936) (w : World) : Calls Try.prog 99 #[num A, num B] w (Ret fun v w' => v = .bool (decide (A < B)) ∧ Grow w w') := by
  refine V.calls (args := [_, _]) Try.func99 rfl Try.ntmps99 rfl rfl ?_
  repeat (first | (refine TL.isAsg ?_; first | refine TL.pure rfl rfl ?_) | refine TL.nil ?_ | refine thenQ_normal ?_ | refine T.seq ?_ | refine T.region ?_ | refine T.block ?_ | (refine TL.isBox ?_; first | (refine TL.boxA rfl rfl ?_; intro bk w' hg hbk hsz hsz')))
  rename_i b2 w2 g2 k2 s2 t2
  obtain ⟨b3, rfl⟩ : ∃ q, q = bk := ⟨_, rfl⟩
  have m2 : Blk w' b2 23 (numL A) := by exact yB
  have m3 : Blk w' b3 23 (numL B) := hbk
  have hG : Grow w w' := by exact yG
  clear k2 hbk g2 hg
  refine T.loop (S := Nat) (fun k => [(5, ctd k), (2, .pointer (some ⟨b2, 0, none⟩)), (3, .pointer (some ⟨b3, 0, none⟩))])
    (fun k v => k ≤ 32 ∧ A / 256 ^ k = B / 256 ^ k ∧ Blk v b2 23 (numL A) ∧ Blk v b3 23 (numL B) ∧ Grow w v) (fun k => k) 32 ⟨rfl, rfl, rfl, trivial⟩
    ⟨by omega, by rw [Nat.div_eq_of_lt (show A < 256 ^ 32 from hA), Nat.div_eq_of_lt (show B < 256 ^ 32 from hB)], m2, m3, hG⟩ ?_
  clear m2 m3 hG
  rintro k v ⟨hk, he, m2, m3, hG⟩
  have l2 := m2.lt
  have l3 := m3.lt
  cases k with
  | zero =>
    refine T.weaken (e' := [(5, .int .i64 (-1)), (2, _), (3, _)]) ?_ ⟨rfl, rfl, rfl, trivial⟩
    repeat (first | (refine TL.isMove ?_; first | refine TL.pure rfl rfl ?_) | (refine TL.isAsg ?_; first | refine TL.pure rfl rfl ?_) | refine TL.nil ?_ | refine thenQ_normal ?_ | refine T.seq ?_ | refine T.region ?_ | (refine TL.isBin ?_; first | refine TL.pureF rfl yD rfl ?_) | refine T.cond_false rfl ?_ | refine T.ret ?_ | refine T.exit ?_ | refine thenQ_exit ?_ | refine blockQ_hit ?_ | refine loopQ_exit ?_)
    simp only [Nat.pow_zero, Nat.div_one] at he
    exact ret1 rfl ⟨_, rfl, by rw [decide_eq_false (by omega)], yG⟩
  | succ k =>
    refine T.weaken (e' := [(5, .int .i64 (k : Int)), (2, _), (3, _)]) ?_ ⟨rfl, rfl, rfl, trivial⟩
    have ha := byteN_lt A k
    have hb := byteN_lt B k
    have hk32 : k < 32 := by omega
    repeat (first | (refine TL.isMove ?_; first | refine TL.pure rfl rfl ?_) | refine TL.nil ?_ | refine thenQ_normal ?_ | refine T.seq ?_ | refine T.region ?_ | refine T.block ?_ | (refine TL.isBin ?_; first | refine TL.pureT rfl yD rfl ?_) | refine T.cond_true rfl ?_ | refine T.skip ?_)
    apply T.any 7 [is _, is _, is _, is _, is _, is _, is _]; (· first | kernel_rfl); (· ((repeat' (first | exact allDo_end | refine allDo_cons ?_ ?_)); (iterate 7 (· ((first | refine does_mk0 rfl rfl rfl ?_); ( intro wq _ _ hgq; (repeat (refine need_cons rfl rfl ?_; intro vq hvq; try (obtain rfl := hvq))); (refine need_nil ?_)); (repeat (first | (refine TL.isMove ?_; first | refine TL.pure rfl rfl ?_) | (refine TL.isIndex ?_; first | refine TL.indexA1 rfl rfl (by first | omega) rfl ?_) | refine TL.nil ?_ | (refine TL.isBin ?_; first | refine TL.pure rfl rfl ?_) | (refine TL.isLoad ?_; refine TL.load1 rfl (Blk.cell yB (numL_at hk32)) rfl ?_))); first | exact one_end rfl yG rfl))))); (rintro _ _ _ hgr _ _; (repeat (refine need_cons rfl rfl ?_; intro vq hvq; try (obtain rfl := hvq))); (refine need_nil ?_))
    by_cases hne : byteN A k = byteN B k
    · repeat (first | (refine TL.isMove ?_; first | refine TL.pure rfl rfl ?_) | (refine TL.isAsg ?_; first | refine TL.pure rfl rfl ?_) | (refine TL.isSub ?_; first | refine TL.subI rfl rfl (by omega) (by omega) rfl ?_) | refine TL.nil ?_ | refine thenQ_normal ?_ | refine T.region ?_ | refine blockQ_normal ?_ | refine T.cond_no rfl yD ?_ | refine T.skip ?_)
      exact loopQ_normal k ⟨ctd_at k, rfl, rfl, trivial⟩ ⟨by omega, by rw [div_step A, div_step B, he, hne], yB, yB, yG⟩ (by omega)
    · repeat (first | refine TL.nil ?_ | refine thenQ_normal ?_ | refine T.seq ?_ | refine T.cond_yes rfl yD ?_)
      apply T.any 8 [is _, is _, is _, is _, is _, is _, is _, is _]; (· first | kernel_rfl); (· ((repeat' (first | exact allDo_end | refine allDo_cons ?_ ?_)); (iterate 8 (· ((first | refine does_mk0 rfl rfl rfl ?_); ( intro wq _ _ hgq; (repeat (refine need_cons rfl rfl ?_; intro vq hvq; try (obtain rfl := hvq))); (refine need_nil ?_)); (repeat (first | (refine TL.isMove ?_; first | refine TL.pure rfl rfl ?_) | (refine TL.isAsg ?_; first | refine TL.pure rfl rfl ?_) | (refine TL.isIndex ?_; first | refine TL.indexA1 rfl rfl (by first | omega) rfl ?_) | refine TL.nil ?_ | (refine TL.isBin ?_; first | refine TL.pure rfl rfl ?_) | (refine TL.isLoad ?_; refine TL.load1 rfl (Blk.cell yB (numL_at hk32)) rfl ?_))); first | exact one_end rfl yG rfl))))); (rintro _ _ _ hgr _ _; (repeat (refine need_cons rfl rfl ?_; intro vq hvq; try (obtain rfl := hvq))); (refine need_nil ?_))
      repeat (first | refine TL.nil ?_ | refine thenQ_normal ?_ | refine T.ret ?_ | refine thenQ_ret ?_ | refine blockQ_ret ?_ | refine loopQ_ret ?_)
      exact ret1 rfl ⟨_, rfl, congrArg Value.bool (decide_eq_decide.2 (by rw [← lt_of_byte he hne]; exact Int.ofNat_lt)), yG⟩
set_option maxRecDepth 20000 in
theorem l_c (w : World) : Calls Try.prog 52 #[] w (Ret fun v w' => v = num LN ∧ Grow w w') := by
  refine V.calls (args := []) Try.func52 rfl Try.ntmps52 rfl rfl ?_
  repeat (first | refine TL.nil ?_ | refine thenQ_normal ?_ | refine T.seq ?_ | refine T.region ?_ | (refine TL.isStore ?_; first | (refine TL.storeWh rfl rfl yB (by exact rfl) (by exact rfl) (by exact rfl) ?_; intro w' hu hbk hsz)) | (refine TL.isAlloc ?_; first | (refine TL.alloc rfl rfl ?_; intro bk w' hg hbk hsz hsz')) | (refine TL.isBuild ?_; first | refine TL.buildArr rfl rfl rfl ?_) | refine T.ret ?_)
  exact retC rfl (load_whole (by assumption) rfl) ⟨_, rfl, rfl, yG⟩
theorem byteN_low (A k : Nat) : A % 256 ^ (k + 1) = A % 256 ^ k + byteN A k * 256 ^ k := by
  unfold byteN
  rw [Nat.pow_succ, Nat.mod_mul, Nat.mul_comm]
theorem pow256 (k : Nat) : 0 < 256 ^ k := Nat.pow_pos (by decide)
theorem low_byte {S k j : Nat} (hj : j < k) : byteN (S % 256 ^ k) j = byteN S j := by
  unfold byteN
  obtain ⟨d, rfl⟩ : ∃ d, k = j + (d + 1) := ⟨k - j - 1, by omega⟩
  rw [Nat.pow_add, Nat.mod_mul_right_div_self, Nat.pow_succ, Nat.mul_comm (256 ^ d) 256, Nat.mod_mul_right_mod]
theorem high_byte {S k j : Nat} (hj : k ≤ j) : byteN (S % 256 ^ k) j = 0 := by
  unfold byteN
  rw [Nat.div_eq_of_lt (Nat.lt_of_lt_of_le (Nat.mod_lt _ (pow256 k)) (Nat.pow_le_pow_right (by decide) hj))]
def cryN (A B k : Nat) : Nat := (A % 256 ^ k + B % 256 ^ k) / 256 ^ k
theorem cry_le (A B k : Nat) : cryN A B k ≤ 1 := by
  unfold cryN
  have h1 := Nat.mod_lt A (pow256 k)
  have h2 := Nat.mod_lt B (pow256 k)
  have : (A % 256 ^ k + B % 256 ^ k) / 256 ^ k < 2 := by
    rw [Nat.div_lt_iff_lt_mul (pow256 k)]; omega
  omega
theorem sum_split (A B k : Nat) : (A + B) / 256 ^ k = A / 256 ^ k + B / 256 ^ k + cryN A B k := by
  unfold cryN
  rw [Nat.add_div (pow256 k)]
  congr 1
  have h1 := Nat.mod_lt A (pow256 k)
  have h2 := Nat.mod_lt B (pow256 k)
  split
  · rename_i h
    exact (Nat.div_eq_of_lt_le (by omega) (by omega)).symm
  · rename_i h
    rw [Nat.div_eq_of_lt (by omega)]
theorem sum_byte (A B k : Nat) : (cryN A B k + byteN A k + byteN B k) % 256 = byteN (A + B) k := by
  have h := sum_split A B k
  unfold byteN at *
  rw [h]
  omega
theorem sum_next (A B k : Nat) : (cryN A B k + byteN A k + byteN B k) / 256 = cryN A B (k + 1) := by
  have h := sum_split A B k
  have h2 := sum_split A B (k + 1)
  have e1 : ∀ X : Nat, X / 256 ^ (k + 1) = X / 256 ^ k / 256 := fun X => by rw [Nat.pow_succ, Nat.div_div_eq_div_mul]
  rw [e1, e1, e1, h] at h2
  unfold byteN
  omega
theorem put_low {S k : Nat} (hk : k < 32) {x : Nat} (hx : x = byteN S k) : (numL (S % 256 ^ k)).set k (B1 x) = numL (S % 256 ^ (k + 1)) := by
  refine numL_set hk (by rw [hx, low_byte (Nat.lt_succ_self k)]) fun j hj hne => ?_
  rcases Nat.lt_or_ge j k with h | h
  · rw [low_byte (by omega), low_byte h]
  · rw [high_byte (by omega), high_byte h]
def bwN (S L k : Nat) : Nat := if S % 256 ^ k < L % 256 ^ k then 1 else 0
theorem bw_le (S L k : Nat) : bwN S L k ≤ 1 := by unfold bwN; split <;> omega
def mixN (D S k : Nat) : Nat := D % 256 ^ k + 256 ^ k * (S / 256 ^ k)
theorem mix_0 (D S : Nat) : mixN D S 0 = S := by unfold mixN; simp [Nat.mod_one]
theorem mix_32 {D S : Nat} (hD : D < 115792089237316195423570985008687907853269984665640564039457584007913129639936) (hS : S < 115792089237316195423570985008687907853269984665640564039457584007913129639936) : mixN D S 32 = D := by
  unfold mixN; rw [Nat.mod_eq_of_lt (show D < 256 ^ 32 from hD), Nat.div_eq_of_lt (show S < 256 ^ 32 from hS)]; rfl
theorem mix_low {D S k j : Nat} (hj : j < k) : byteN (mixN D S k) j = byteN D j := by
  rw [← low_byte (S := mixN D S k) hj, ← low_byte (S := D) hj]
  unfold mixN
  rw [Nat.add_mul_mod_self_left, Nat.mod_mod]
theorem mix_high {D S k j : Nat} (hj : k ≤ j) : byteN (mixN D S k) j = byteN S j := by
  unfold byteN mixN
  obtain ⟨d, rfl⟩ : ∃ d, j = k + d := ⟨j - k, by omega⟩
  rw [Nat.pow_add, ← Nat.div_div_eq_div_mul, ← Nat.div_div_eq_div_mul, Nat.add_mul_div_left _ _ (pow256 k), Nat.div_eq_of_lt (Nat.mod_lt _ (pow256 k)), Nat.zero_add]
theorem put_mix {D S k : Nat} (hk : k < 32) {x : Nat} (hx : x = byteN D k) : (numL (mixN D S k)).set k (B1 x) = numL (mixN D S (k + 1)) := by
  refine numL_set hk (by rw [hx, mix_low (Nat.lt_succ_self k)]) fun j hj hne => ?_
  rcases Nat.lt_or_ge j k with h | h
  · rw [mix_low (by omega), mix_low h]
  · rw [mix_high (by omega), mix_high h]
theorem dif_split {S L : Nat} (h : L ≤ S) (k : Nat) : S / 256 ^ k = (S - L) / 256 ^ k + L / 256 ^ k + bwN S L k := by
  have := sum_split (S - L) L k
  rw [show S - L + L = S by omega] at this
  rw [this]
  congr 1
  unfold cryN bwN
  have h1 := Nat.mod_lt (S - L) (pow256 k)
  have h2 := Nat.mod_lt L (pow256 k)
  have h3 : S % 256 ^ k = ((S - L) % 256 ^ k + L % 256 ^ k) % 256 ^ k := by rw [← Nat.add_mod, show S - L + L = S by omega]
  generalize (S - L) % 256 ^ k = x at *
  generalize L % 256 ^ k = y at *
  generalize 256 ^ k = p at *
  rcases Nat.lt_or_ge (x + y) p with hc | hc
  · rw [Nat.mod_eq_of_lt hc] at h3
    rw [Nat.div_eq_of_lt hc, if_neg (by omega)]
  · have h4 : (x + y) % p = x + y - p := by rw [Nat.mod_eq_sub_mod hc, Nat.mod_eq_of_lt (by omega)]
    rw [h4] at h3
    rw [Nat.div_eq_of_lt_le (k := 1) (by omega) (by omega), if_pos (by omega)]
theorem dif_byte {S L : Nat} (h : L ≤ S) (k : Nat) : (byteN S k + 256 - byteN L k - bwN S L k) % 256 = byteN (S - L) k ∧ (bwN S L (k + 1) = if byteN S k < byteN L k + bwN S L k then 1 else 0) := by
  have h1 := dif_split h k
  have h2 := dif_split h (k + 1)
  have e1 : ∀ X : Nat, X / 256 ^ (k + 1) = X / 256 ^ k / 256 := fun X => by rw [Nat.pow_succ, Nat.div_div_eq_div_mul]
  rw [e1, e1, e1] at h2
  have b1 := bw_le S L k
  have b2 := bw_le S L (k + 1)
  unfold byteN
  generalize S / 256 ^ k = s at *
  generalize (S - L) / 256 ^ k = d at *
  generalize L / 256 ^ k = l at *
  generalize bwN S L k = b at *
  generalize bwN S L (k + 1) = b' at *
  constructor
  · omega
  · split <;> omega
attribute [irreducible] mixN bwN cryN LN
end Go.Proofs.Ytmpjigghgedjbaa
namespace Go.Proofs.Ytmpjigghgedjbaa
open Go Go.RowKit Go.V
theorem numL_0 : numL 0 = zeros := rfl
theorem mix_at {D S k : Nat} (hk : k < 32) : (numL (mixN D S k))[k]? = some (B1 (byteN S k)) := by rw [numL_at hk, mix_high (Nat.le_refl k)]
set_option maxHeartbeats 4000000 in
set_option maxRecDepth 20000 in
theorem plus_s (A B : Nat) (hA : A < LN) (hB : B < LN) (w : World) : Calls Try.prog 85 #[num A, num B] w (Ret fun v w' => v = num ((A + B) % LN) ∧ Grow w w') := by
  refine V.calls (args := [_, _]) Try.func85 rfl Try.ntmps85 rfl rfl ?_
  have hLn : LN < 14474011154664524427946373126085988481714232718759815212003901876570908501978 := by unfold LN; decide
  have hS : A + B < 115792089237316195423570985008687907853269984665640564039457584007913129639936 := by omega
  repeat (first | (refine TL.isAsg ?_; first | refine TL.pure rfl rfl ?_) | refine TL.nil ?_ | refine thenQ_normal ?_ | refine T.seq ?_ | refine T.region ?_ | refine T.block ?_ | (refine TL.isBox ?_; first | (refine TL.boxA rfl rfl ?_; intro bk w' hg hbk hsz hsz')) | (refine TL.isAlloc ?_; first | (refine TL.alloc rfl rfl ?_; intro bk w' hg hbk hsz hsz')))
  rename_i b2 w2 g2 k2 s2 t2 b3 w3 g3 k3 s3 t3 b4 w4 g4 k4 s4 t4
  obtain ⟨b5, rfl⟩ : ∃ q, q = bk := ⟨_, rfl⟩
  have m2 : Blk w' b2 23 (numL A) := by exact yB
  have m3 : Blk w' b3 23 (numL B) := by exact yB
  have m4 : Blk w' b4 23 zeros := by exact yB
  have m5 : Blk w' b5 23 (numL ((A + B) % 256 ^ 0)) := by rw [Nat.pow_zero, Nat.mod_one]; exact hbk
  have hG : Grow w w' := by exact yG
  have n25 : b2 ≠ b5 := by omega
  have n35 : b3 ≠ b5 := by omega
  have n45 : b4 ≠ b5 := by omega
  have hw4 : w.heap.size ≤ b4 := by omega
  have hw5 : w.heap.size ≤ b5 := by omega
  clear k2 k3 k4 hbk g2 g3 g4 hg
  refine T.loop (S := Nat) (fun k => [(6, .int .i64 (cryN A B k : Int)), (7, .int .i64 (k : Int)), (2, .pointer (some ⟨b2, 0, none⟩)), (3, .pointer (some ⟨b3, 0, none⟩)), (4, .pointer (some ⟨b4, 0, none⟩)), (5, .pointer (some ⟨b5, 0, none⟩))])
    (fun k v => k ≤ 32 ∧ Blk v b2 23 (numL A) ∧ Blk v b3 23 (numL B) ∧ Blk v b4 23 zeros ∧ Blk v b5 23 (numL ((A + B) % 256 ^ k)) ∧ Grow w v) (fun k => 32 - k) 0 ⟨by rw [show cryN A B 0 = 0 by unfold cryN; simp [Nat.mod_one]]; rfl, rfl, rfl, rfl, rfl, rfl, trivial⟩
    ⟨by omega, m2, m3, m4, m5, hG⟩ ?_
  clear m2 m3 m4 m5 hG s2 t2 s3 t3 s4 t4 hsz hsz'
  rintro k v ⟨hk, m2, m3, m4, m5, hG⟩
  have l2 := m2.lt
  have l3 := m3.lt
  have l4 := m4.lt
  have l5 := m5.lt
  rcases Nat.lt_or_ge k 32 with hk32 | hge
  · have ha := byteN_lt A k
    have hb := byteN_lt B k
    have hc := cry_le A B k
    repeat (first | (refine TL.isMove ?_; first | refine TL.pure rfl rfl ?_) | refine TL.nil ?_ | refine thenQ_normal ?_ | refine T.seq ?_ | refine T.region ?_ | refine T.block ?_ | (refine TL.isBin ?_; first | refine TL.pureT rfl yD rfl ?_) | refine T.cond_true rfl ?_ | refine T.skip ?_)
    apply T.any 11 [is _, is _, is _, is _, is _, is _, is _, is _, is _, is _, is _]; (· first | kernel_rfl); (· ((repeat' (first | exact allDo_end | refine allDo_cons ?_ ?_)); (iterate 11 (· ((first | refine does_mk0 rfl rfl rfl ?_); ( intro wq _ _ hgq; (repeat (refine need_cons rfl rfl ?_; intro vq hvq; try (obtain rfl := hvq))); (refine need_nil ?_)); (repeat (first | (refine TL.isMove ?_; first | refine TL.pure rfl rfl ?_) | (refine TL.isIndex ?_; first | refine TL.indexA1 rfl rfl (by first | omega) rfl ?_) | (refine TL.isAdd ?_; first | refine TL.addN rfl rfl (by first | omega) rfl ?_) | refine TL.nil ?_ | (refine TL.isConv ?_; first | refine TL.convN rfl (by first | omega) rfl ?_) | (refine TL.isLoad ?_; refine TL.load1 rfl (Blk.cell yB (numL_at hk32)) rfl ?_))); first | exact one_end rfl yG rfl))))); (rintro _ _ _ hgr _ _; (repeat (refine need_cons rfl rfl ?_; intro vq hvq; try (obtain rfl := hvq))); (refine need_nil ?_))
    repeat (first | (refine TL.isMove ?_; first | refine TL.pure rfl rfl ?_) | (refine TL.isAsg ?_; first | refine TL.pure rfl rfl ?_) | (refine TL.isIndex ?_; first | refine TL.indexA1 rfl rfl (by first | omega) rfl ?_) | refine TL.nil ?_ | refine thenQ_normal ?_ | refine T.seq ?_ | refine T.region ?_ | (refine TL.isRem ?_; first | refine TL.remU rfl rfl (by omega) rfl ?_) | (refine TL.isConv ?_; first | refine TL.convU rfl rfl (by omega) rfl ?_))
    refine TL.storeS rfl rfl yB (by exact rfl) (by rw [numL_len]; omega) ?_
    intro w3 hu3 hbk3 hsz3
    replace hbk3 := (put_low hk32 (sum_byte A B k)) ▸ hbk3
    repeat (first | (refine TL.isMove ?_; first | refine TL.pure rfl rfl ?_) | (refine TL.isAsg ?_; first | refine TL.pure rfl rfl ?_) | (refine TL.isAdd ?_; first | refine TL.addN rfl rfl (by first | omega) rfl ?_) | refine TL.nil ?_ | refine thenQ_normal ?_ | refine T.region ?_ | refine blockQ_normal ?_ | (refine TL.isQuo ?_; first | refine TL.quoN rfl rfl (by omega) (by first | omega) rfl ?_))
    exact loopQ_normal (k + 1) ⟨by rw [← sum_next]; rfl, rfl, rfl, rfl, rfl, rfl, trivial⟩ ⟨by omega, yB, yB, yB, hbk3, yG⟩ (by omega)
  obtain rfl : k = 32 := by omega
  replace m5 : Blk v b5 23 (numL (A + B)) := by rw [Nat.mod_eq_of_lt (show A + B < 256 ^ 32 from hS)] at m5; exact m5
  clear hk hge
  generalize cryN A B 32 = cc at *
  repeat (first | (refine TL.isMove ?_; first | refine TL.pure rfl rfl ?_) | refine TL.nil ?_ | refine thenQ_normal ?_ | refine T.seq ?_ | refine T.region ?_ | (refine TL.isBin ?_; first | refine TL.pureF rfl yD rfl ?_) | refine T.cond_false rfl ?_ | refine T.exit ?_ | refine thenQ_exit ?_ | refine blockQ_hit ?_ | refine loopQ_exit ?_)
  apply T.any 3 [is _, is _, is _]; (· first | kernel_rfl); (· ((repeat' (first | exact allDo_end | refine allDo_cons ?_ ?_)); (iterate 3 (· ((first | refine does_mk0 rfl rfl rfl ?_); ( intro wq _ _ hgq; (repeat (refine need_cons rfl rfl ?_; intro vq hvq; try (obtain rfl := hvq))); (refine need_nil ?_)); (repeat (first | (refine TL.isLoad ?_; first | refine TL.loadW rfl yB (by exact rfl) rfl ?_) | refine TL.nil ?_ | (refine TL.isFn 52 ?_; refine TL.call rfl (l_c _) rfl ?_; rintro _ _ ⟨rfl, hgc⟩) | (refine TL.isFn 99 ?_; refine TL.call rfl (below_c (A + B) LN hS (by unfold LN; decide) _) rfl ?_; rintro _ _ ⟨rfl, hgc⟩))); first | exact one_end rfl yG rfl))))); (rintro _ _ _ hgr _ _; (repeat (refine need_cons rfl rfl ?_; intro vq hvq; try (obtain rfl := hvq))); (refine need_nil ?_))
  by_cases hlt : A + B < LN
  · repeat (first | (refine TL.isLoad ?_; first | refine TL.loadW rfl yB (by exact rfl) rfl ?_) | refine TL.nil ?_ | refine thenQ_normal ?_ | refine T.seq ?_ | refine T.region ?_ | (refine TL.isStore ?_; first | (refine TL.storeWh rfl rfl yB (by exact rfl) (by exact rfl) (by exact rfl) ?_; intro w' hu hbk hsz)) | refine T.cond_yes rfl yD ?_ | refine T.ret ?_ | refine thenQ_ret ?_)
    exact retC rfl (load_whole (by assumption) rfl) ⟨_, rfl, by rw [Nat.mod_eq_of_lt hlt], yG⟩
  repeat (first | (refine TL.isAsg ?_; first | refine TL.pure rfl rfl ?_) | refine TL.nil ?_ | refine thenQ_normal ?_ | refine T.seq ?_ | refine T.region ?_ | refine T.block ?_ | (refine TL.isStore ?_; first | (refine TL.storeWh rfl rfl yB (by exact rfl) (by exact rfl) (by exact rfl) ?_; intro w' hu hbk hsz)) | (refine TL.isAlloc ?_; first | (refine TL.alloc rfl rfl ?_; intro bk w' hg hbk hsz hsz')) | refine T.cond_no rfl yD ?_ | refine T.skip ?_ | (refine TL.isFn 52 ?_; refine TL.call rfl (l_c _) rfl ?_; rintro _ _ ⟨rfl, hgc⟩))
  obtain ⟨b8, rfl⟩ : ∃ q, q = bk := ⟨_, rfl⟩
  have hle : LN ≤ A + B := by omega
  have hgv := hgr.2
  have q4 : Blk w' b4 23 zeros := by exact yB
  have q5 : Blk w' b5 23 (numL (mixN (A + B - LN) (A + B) 0)) := by rw [mix_0]; exact yB
  have q8 : Blk w' b8 23 (numL LN) := hbk
  have hG2 : Grow w w' := by exact yG
  have n85 : b8 ≠ b5 := by have := hgc.2; omega
  clear m2 m3 m4 m5 hG hgr hbk l2 l3 l4 l5
  have hneg : Value.int .i64 (0 : Int) = .int .i64 (-((bwN (A + B) LN 0 : Nat) : Int)) := by rw [show bwN (A + B) LN 0 = 0 by unfold bwN; rw [if_neg (by simp [Nat.mod_one])]]; rfl
  refine T.loop (S := Nat) (fun k => [(6, .int .i64 (-((bwN (A + B) LN k : Nat) : Int))), (9, .int .i64 (k : Int)), (4, .pointer (some ⟨b4, 0, none⟩)), (5, .pointer (some ⟨b5, 0, none⟩)), (8, .pointer (some ⟨b8, 0, none⟩))])
    (fun k v => k ≤ 32 ∧ Blk v b4 23 zeros ∧ Blk v b5 23 (numL (mixN (A + B - LN) (A + B) k)) ∧ Blk v b8 23 (numL LN) ∧ Grow w v) (fun k => 32 - k) 0 ⟨by rw [← hneg]; rfl, rfl, rfl, rfl, rfl, trivial⟩
    ⟨by omega, q4, q5, q8, hG2⟩ ?_
  clear q4 q5 q8 hG2 hneg
  rintro k v ⟨hk, m4, m5, m8, hG⟩
  have l4 := m4.lt
  have l5 := m5.lt
  have l8 := m8.lt
  rcases Nat.lt_or_ge k 32 with hk32 | hge
  · have ha := byteN_lt (A + B) k
    have hb := byteN_lt LN k
    have hc := bw_le (A + B) LN k
    obtain ⟨d1, d2⟩ := dif_byte hle k
    repeat (first | (refine TL.isMove ?_; first | refine TL.pure rfl rfl ?_) | refine TL.nil ?_ | refine thenQ_normal ?_ | refine T.seq ?_ | refine T.region ?_ | refine T.block ?_ | (refine TL.isBin ?_; first | refine TL.pureT rfl yD rfl ?_) | refine T.cond_true rfl ?_ | refine T.skip ?_)
    apply T.any 11 [is _, is _, is _, is _, is _, is _, is _, is _, is _, is _, is _]; (· first | kernel_rfl); (· ((repeat' (first | exact allDo_end | refine allDo_cons ?_ ?_)); (iterate 11 (· ((first | refine does_mk0 rfl rfl rfl ?_); ( intro wq _ _ hgq; (repeat (refine need_cons rfl rfl ?_; intro vq hvq; try (obtain rfl := hvq))); (refine need_nil ?_)); (repeat (first | (refine TL.isMove ?_; first | refine TL.pure rfl rfl ?_) | (refine TL.isIndex ?_; first | refine TL.indexA1 rfl rfl (by first | omega) rfl ?_) | (refine TL.isAdd ?_; first | refine TL.addI rfl rfl (by omega) (by omega) rfl ?_) | (refine TL.isSub ?_; first | refine TL.subI rfl rfl (by omega) (by omega) rfl ?_) | refine TL.nil ?_ | (refine TL.isConv ?_; first | refine TL.convN rfl (by first | omega) rfl ?_) | (refine TL.isLoad ?_; refine TL.load1 rfl (Blk.cell yB (mix_at (D := A + B - LN) (S := A + B) hk32)) rfl ?_) | (refine TL.isLoad ?_; refine TL.load1 rfl (Blk.cell yB (numL_at (N := LN) hk32)) rfl ?_))); first | exact one_end rfl yG rfl))))); (rintro _ _ _ hgr _ _; (repeat (refine need_cons rfl rfl ?_; intro vq hvq; try (obtain rfl := hvq))); (refine need_nil ?_))
    obtain ⟨n, hn⟩ : ∃ n : Nat, n = byteN (A + B) k + 256 - byteN LN k - bwN (A + B) LN k := ⟨_, rfl⟩
    rw [← hn] at d1
    rw [show ((byteN (A + B) k : Nat) : Int) - ((byteN LN k : Nat) : Int) + -((bwN (A + B) LN k : Nat) : Int) = (n : Int) - 256 by omega]
    have hn2 : n < 512 := by omega
    repeat (first | (refine TL.isMove ?_; first | refine TL.pure rfl rfl ?_) | (refine TL.isAsg ?_; first | refine TL.pure rfl rfl ?_) | (refine TL.isAdd ?_; first | refine TL.addI rfl rfl (by omega) (by omega) rfl ?_) | refine TL.nil ?_ | refine thenQ_normal ?_ | refine T.seq ?_ | refine T.region ?_)
    rw [show ((n : Int) - 256 + 256) = (n : Int) by omega]
    repeat (first | (refine TL.isIndex ?_; first | refine TL.indexA1 rfl rfl (by first | omega) rfl ?_) | (refine TL.isRem ?_; first | refine TL.remU rfl rfl (by omega) rfl ?_) | (refine TL.isConv ?_; first | refine TL.convU rfl rfl (by omega) rfl ?_))
    refine TL.storeS rfl rfl yB (by exact rfl) (by rw [numL_len]; omega) ?_
    intro w3 hu3 hbk3 hsz3
    replace hbk3 := (put_mix hk32 d1) ▸ hbk3
    by_cases hlt2 : n < 256
    · repeat (first | (refine TL.isMove ?_; first | refine TL.pure rfl rfl ?_) | (refine TL.isAsg ?_; first | refine TL.pure rfl rfl ?_) | (refine TL.isAdd ?_; first | refine TL.addN rfl rfl (by first | omega) rfl ?_) | refine TL.nil ?_ | refine thenQ_normal ?_ | refine T.seq ?_ | refine T.region ?_ | refine blockQ_normal ?_ | (refine TL.isBin ?_; first | refine TL.pureT rfl yD rfl ?_) | refine T.cond_true rfl ?_)
      exact loopQ_normal (k + 1) ⟨by rw [d2, if_pos (by omega)]; rfl, rfl, rfl, rfl, rfl, trivial⟩ ⟨by omega, yB, hbk3, yB, yG⟩ (by omega)
    · repeat (first | (refine TL.isMove ?_; first | refine TL.pure rfl rfl ?_) | (refine TL.isAsg ?_; first | refine TL.pure rfl rfl ?_) | (refine TL.isAdd ?_; first | refine TL.addN rfl rfl (by first | omega) rfl ?_) | refine TL.nil ?_ | refine thenQ_normal ?_ | refine T.seq ?_ | refine T.region ?_ | refine blockQ_normal ?_ | (refine TL.isBin ?_; first | refine TL.pureF rfl yD rfl ?_) | refine T.cond_false rfl ?_)
      exact loopQ_normal (k + 1) ⟨by rw [d2, if_neg (by omega)]; rfl, rfl, rfl, rfl, rfl, trivial⟩ ⟨by omega, yB, hbk3, yB, yG⟩ (by omega)
  obtain rfl : k = 32 := by omega
  replace m5 : Blk v b5 23 (numL (A + B - LN)) := by rw [mix_32 (by omega) hS] at m5; exact m5
  clear hk hge
  generalize bwN (A + B) LN 32 = cc at *
  repeat (first | (refine TL.isMove ?_; first | refine TL.pure rfl rfl ?_) | (refine TL.isLoad ?_; first | refine TL.loadW rfl yB (by exact rfl) rfl ?_) | refine TL.nil ?_ | refine thenQ_normal ?_ | refine T.seq ?_ | refine T.region ?_ | (refine TL.isBin ?_; first | refine TL.pureF rfl yD rfl ?_) | (refine TL.isStore ?_; first | (refine TL.storeWh rfl rfl yB (by exact rfl) (by exact rfl) (by exact rfl) ?_; intro w' hu hbk hsz)) | refine T.cond_false rfl ?_ | refine T.ret ?_ | refine T.exit ?_ | refine thenQ_exit ?_ | refine blockQ_hit ?_ | refine loopQ_exit ?_)
  exact retC rfl (load_whole (by assumption) rfl) ⟨_, rfl, by rw [Nat.mod_eq_sub_mod hle, Nat.mod_eq_of_lt (by omega)], yG⟩
end Go.Proofs.Ytmpjigghgedjbaa
namespace Go.Proofs.Ytmpjigghgedjbaa
open Go Go.RowKit Go.V
theorem LN_pos : 0 < LN := by unfold LN; decide
theorem LN_mod (a : Nat) : a % LN < LN := Nat.mod_lt _ LN_pos
theorem one_LN : 1 < LN := by unfold LN; decide
theorem LN_big (a : Nat) : a % LN < 115792089237316195423570985008687907853269984665640564039457584007913129639936 := Nat.lt_trans (LN_mod a) (by unfold LN; decide)
theorem rest_dbl (N k : Nat) : (N / 2 ^ (k + 1) % LN + N / 2 ^ (k + 1) % LN) % LN = (2 * (N / 2 ^ (k + 1))) % LN := by rw [← Nat.add_mod]; congr 1; omega
theorem rest_even {N k : Nat} (h : N / 2 ^ k % 2 = 0) : 2 * (N / 2 ^ (k + 1)) = N / 2 ^ k := by rw [Nat.pow_succ, ← Nat.div_div_eq_div_mul]; omega
theorem rest_odd {N k : Nat} (h : N / 2 ^ k % 2 = 1) : ((2 * (N / 2 ^ (k + 1))) % LN + 1) % LN = N / 2 ^ k % LN := by
  have e : N / 2 ^ k = 2 * (N / 2 ^ (k + 1)) + 1 := by rw [Nat.pow_succ, ← Nat.div_div_eq_div_mul]; omega
  rw [e, Nat.mod_add_mod]
theorem numL_1 : zeros.set 0 (B1 1) = numL 1 := rfl
def Rd (w : World) (b o n N : Nat) : Prop := b < w.heap.size ∧ ∀ i, i < n → w.cell? ⟨b, o + i, none⟩ = some (B1 (byteN N i))
theorem Rd.grow {w w' : World} {b o n N : Nat} (h : Rd w b o n N) (g : Grow w w') : Rd w' b o n N :=
  ⟨Nat.lt_of_lt_of_le h.1 g.2, fun i hi => by
    have := h.2 i hi
    simp only [World.cell?] at this ⊢
    rw [g.block b h.1]; exact this⟩
theorem Rd.num {w : World} {b N : Nat} {t : TypeId} (h : Blk w b t (numL N)) : Rd w b 0 32 N := ⟨h.lt, fun i hi => by rw [Nat.zero_add]; exact h.cell (numL_at hi)⟩
set_option maxHeartbeats 4000000 in
set_option maxRecDepth 20000 in
theorem rest_s (N n c b o : Nat) (hn : n ≤ 64) (hN : N < 256 ^ n) (w : World) (hr : Rd w b o n N) :
    Calls Try.prog 86 #[.slice (some ⟨b, o, none⟩) n c] w (Ret fun v w' => v = num (N % LN) ∧ Grow w w') := by
  refine V.calls (args := [_]) Try.func86 rfl Try.ntmps86 rfl rfl ?_
  repeat (first | (refine TL.isMove ?_; first | refine TL.pure rfl rfl ?_) | (refine TL.isAsg ?_; first | refine TL.pure rfl rfl ?_) | (refine TL.isIndex ?_; first | refine TL.indexA1 rfl rfl (by first | omega) rfl ?_) | (refine TL.isSub ?_; first | refine TL.subI rfl rfl (by omega) (by omega) rfl ?_) | (refine TL.isMul ?_; first | refine TL.mulN rfl rfl (by first | omega) rfl ?_) | refine TL.nil ?_ | refine thenQ_normal ?_ | refine T.seq ?_ | refine T.region ?_ | refine T.block ?_ | (refine TL.isStore ?_; first | (refine TL.store1 rfl rfl yB (by exact rfl) (by exact rfl) (by exact rfl) ?_; intro w' hu hbk hsz)) | (refine TL.isAlloc ?_; first | (refine TL.alloc rfl rfl ?_; intro bk w' hg hbk hsz hsz')) | (refine TL.isCall ?_; first | refine TL.len_slice rfl rfl ?_))
  rename_i b2 w2 g2 k2 s2 t2 b3 w3 g3 k3 s3 t3 w4 k4 s4
  obtain ⟨b4, rfl⟩ : ∃ q, q = bk := ⟨_, rfl⟩
  have q2 : Blk w' b2 23 zeros := by exact yB
  have q3 : Blk w' b3 23 (numL (N / 2 ^ (8 * n) % LN)) := by
    rw [Nat.div_eq_of_lt (by rw [Nat.pow_mul]; exact hN), Nat.zero_mod]; exact yB
  have q4 : Blk w' b4 23 (numL 1) := hbk
  have hG : Grow w w' := by exact yG
  have n23 : b2 ≠ b3 := by omega
  have n43 : b4 ≠ b3 := by omega
  have hw2 : w.heap.size ≤ b2 := by omega
  have hw3 : w.heap.size ≤ b3 := by omega
  clear k2 k3 k4 hbk g2 g3 hg hu
  refine T.loop (S := Nat) (fun k => [(5, ctd k), (0, .slice (some ⟨b, o, none⟩) n c), (2, .pointer (some ⟨b2, 0, none⟩)), (3, .pointer (some ⟨b3, 0, none⟩)), (4, .pointer (some ⟨b4, 0, none⟩))])
    (fun k v => k ≤ 8 * n ∧ Blk v b2 23 zeros ∧ Blk v b3 23 (numL (N / 2 ^ k % LN)) ∧ Blk v b4 23 (numL 1) ∧ Grow w v) (fun k => k) (8 * n) ⟨ctd_at (8 * n), rfl, rfl, rfl, rfl, trivial⟩
    ⟨by omega, q2, q3, q4, hG⟩ ?_
  clear q2 q3 q4 hG s2 t2 s3 t3 s4 hsz' hsz
  rintro k v ⟨hk, m2, m3, m4, hG⟩
  have l2 := m2.lt
  have l3 := m3.lt
  have l4 := m4.lt
  cases k with
  | zero =>
    refine T.weaken (e' := [(5, .int .i64 (-1)), (2, _), (3, _)]) ?_ ⟨rfl, rfl, rfl, trivial⟩
    repeat (first | (refine TL.isMove ?_; first | refine TL.pure rfl rfl ?_) | (refine TL.isLoad ?_; first | refine TL.loadW rfl yB (by exact rfl) rfl ?_) | refine TL.nil ?_ | refine thenQ_normal ?_ | refine T.seq ?_ | refine T.region ?_ | (refine TL.isBin ?_; first | refine TL.pureF rfl yD rfl ?_) | (refine TL.isStore ?_; first | (refine TL.storeWh rfl rfl yB (by exact rfl) (by exact rfl) (by exact rfl) ?_; intro w' hu hbk hsz)) | refine T.cond_false rfl ?_ | refine T.ret ?_ | refine T.exit ?_ | refine thenQ_exit ?_ | refine blockQ_hit ?_ | refine loopQ_exit ?_)
    exact retC rfl (load_whole (by assumption) rfl) ⟨_, rfl, by rw [Nat.pow_zero, Nat.div_one], yG⟩
  | succ k =>
    refine T.weaken (e' := [(5, .int .i64 (k : Int)), (0, _), (2, _), (3, _), (4, _)]) ?_ ⟨rfl, rfl, rfl, rfl, rfl, trivial⟩
    have hi8 : k / 8 < n := by omega
    have hrd := (hr.grow hG).2 (k / 8) hi8
    have hbb := byte_bit N k
    have hlt : byteN N (k / 8) / 2 ^ (k % 8) < 256 := Nat.lt_of_le_of_lt (Nat.div_le_self _ _) (byteN_lt _ _)
    repeat (first | (refine TL.isMove ?_; first | refine TL.pure rfl rfl ?_) | (refine TL.isLoad ?_; first | refine TL.loadW rfl yB (by exact rfl) rfl ?_) | (refine TL.isIndex ?_; first | refine TL.indexAt rfl rfl (by omega) rfl rfl ?_) | refine TL.nil ?_ | refine thenQ_normal ?_ | refine T.seq ?_ | refine T.region ?_ | refine T.block ?_ | (refine TL.isQuo ?_; first | refine TL.quoN rfl rfl (by omega) (by first | omega) rfl ?_) | (refine TL.isBin ?_; first | refine TL.pureT rfl yD rfl ?_) | (refine TL.isStore ?_; first | (refine TL.storeWh rfl rfl yB (by exact rfl) (by exact rfl) (by exact rfl) ?_; intro w' hu hbk hsz)) | refine T.cond_true rfl ?_ | refine T.skip ?_ | (refine TL.isFn 85 ?_; refine TL.call rfl (plus_s _ _ (LN_mod _) (LN_mod _) _) rfl ?_; rintro _ _ ⟨rfl, hgc⟩))
    have q2 : Blk w' b2 23 zeros := by exact yB
    have q4 : Blk w' b4 23 (numL 1) := by exact yB
    have hG2 : Grow w w' := by exact yG
    have hrd2 : w'.cell? ⟨b, o + k / 8 * 1, none⟩ = some (B1 (byteN N (k / 8))) := by rw [Nat.mul_one]; exact (hr.grow hG2).2 (k / 8) hi8
    rw [rest_dbl] at hbk
    clear m2 m3 m4 hG hrd hu hgc
    generalize w' = w9 at *
    rcases Nat.mod_two_eq_zero_or_one (N / 2 ^ k) with hb | hb
    · rw [hb] at hbb
      rw [rest_even hb] at hbk
      repeat (first | (refine TL.isMove ?_; first | refine TL.pure rfl rfl ?_) | (refine TL.isAsg ?_; first | refine TL.pure rfl rfl ?_) | (refine TL.isLoad ?_; first | refine TL.load1 rfl yM rfl ?_) | (refine TL.isSub ?_; first | refine TL.subI rfl rfl (by omega) (by omega) rfl ?_) | refine TL.nil ?_ | refine thenQ_normal ?_ | refine T.region ?_ | refine blockQ_normal ?_ | (refine TL.isShr ?_; first | refine TL.shrS rfl rfl (by first | (simp only [IntKind.bits]; omega)) rfl ?_) | (refine TL.isRem ?_; first | refine TL.remU rfl rfl (by omega) rfl ?_) | (refine TL.isBin ?_; first | refine TL.pureF rfl yD rfl ?_) | (refine TL.isConv ?_; first | refine TL.convU rfl rfl (by omega) rfl ?_) | refine T.cond_false rfl ?_ | refine T.skip ?_)
      exact loopQ_normal k ⟨ctd_at k, rfl, rfl, rfl, rfl, trivial⟩ ⟨by omega, yB, yB, yB, yG⟩ (by omega)
    · rw [hb] at hbb
      repeat (first | (refine TL.isMove ?_; first | refine TL.pure rfl rfl ?_) | (refine TL.isAsg ?_; first | refine TL.pure rfl rfl ?_) | (refine TL.isLoad ?_; first | refine TL.load1 rfl yM rfl ?_ | refine TL.loadW rfl yB (by exact rfl) rfl ?_) | (refine TL.isSub ?_; first | refine TL.subI rfl rfl (by omega) (by omega) rfl ?_) | refine TL.nil ?_ | refine thenQ_normal ?_ | refine T.region ?_ | refine blockQ_normal ?_ | (refine TL.isShr ?_; first | refine TL.shrS rfl rfl (by first | (simp only [IntKind.bits]; omega)) rfl ?_) | (refine TL.isRem ?_; first | refine TL.remU rfl rfl (by omega) rfl ?_) | (refine TL.isBin ?_; first | refine TL.pureT rfl yD rfl ?_) | (refine TL.isConv ?_; first | refine TL.convU rfl rfl (by omega) rfl ?_) | (refine TL.isStore ?_; first | (refine TL.storeWh rfl rfl yB (by exact rfl) (by exact rfl) (by exact rfl) ?_; intro w' hu hbk hsz)) | refine T.cond_true rfl ?_ | (refine TL.isFn 85 ?_; refine TL.call rfl (plus_s _ _ (LN_mod _) one_LN _) rfl ?_; rintro _ _ ⟨rfl, hgc⟩))
      rw [rest_odd hb] at hbk
      exact loopQ_normal k ⟨ctd_at k, rfl, rfl, rfl, rfl, trivial⟩ ⟨by omega, yB, yB, yB, yG⟩ (by omega)
theorem rest_n (b : Nat) (t : TypeId) (N : Nat) (w : World) (hm : Blk w b t (numL N)) (hN : N < 256 ^ 32) :
    Calls Try.prog 86 #[.slice (some ⟨b, 0, none⟩) 32 32] w (Ret fun v w' => v = num (N % LN) ∧ Grow w w') := rest_s N 32 32 b 0 (by decide) hN w (Rd.num hm)
set_option maxHeartbeats 4000000 in
set_option maxRecDepth 20000 in
theorem restE_s (N n c b o : Nat) (hn : n ≤ 64) (hN : N < 256 ^ n) (w : World) (hr : Rd w b o n N) :
    Calls Try.prog 65 #[.slice (some ⟨b, o, none⟩) n c] w (Ret fun v w' => v = .tuple #[num (N % LN), .int .i64 0] ∧ Grow w w') := by
  refine V.calls (args := [_]) Try.func65 rfl Try.ntmps65 rfl rfl ?_
  repeat (first | (refine TL.isMove ?_; first | refine TL.pure rfl rfl ?_) | (refine TL.isAsg ?_; first | refine TL.pure rfl rfl ?_) | refine TL.nil ?_ | refine thenQ_normal ?_ | refine T.seq ?_ | refine T.region ?_ | (refine TL.isBin ?_; first | refine TL.pureF rfl yD rfl ?_) | (refine TL.isAlloc ?_; first | (refine TL.alloc rfl rfl ?_; intro bk w' hg hbk hsz hsz')) | (refine TL.isCall ?_; first | refine TL.len_slice rfl rfl ?_) | refine T.cond_false rfl ?_ | refine T.skip ?_)
  refine TL.call rfl (rest_s N n c b o hn hN _ (hr.grow yG)) rfl ?_
  rintro _ w5 ⟨rfl, hg5⟩
  repeat (first | (refine TL.isAsg ?_; first | refine TL.pure rfl rfl ?_) | refine TL.nil ?_ | refine thenQ_normal ?_ | (refine TL.isStore ?_; first | (refine TL.storeWh rfl rfl yB (by exact rfl) (by exact rfl) (by exact rfl) ?_; intro w' hu hbk hsz)) | refine T.ret ?_)
  exact retCT rfl (load_whole (by assumption) rfl) rfl ⟨_, rfl, rfl, yG⟩
set_option maxHeartbeats 4000000 in
set_option maxRecDepth 20000 in
theorem add_s (A B : Nat) (hA : A < 115792089237316195423570985008687907853269984665640564039457584007913129639936) (hB : B < 115792089237316195423570985008687907853269984665640564039457584007913129639936) (w : World) : Calls Try.prog 50 #[num A, num B] w (Ret fun v w' => v = num ((A + B) % LN) ∧ Grow w w') := by
  refine V.calls (args := [_, _]) Try.func50 rfl Try.ntmps50 rfl rfl ?_
  repeat (first | refine TL.nil ?_ | refine thenQ_normal ?_ | refine T.seq ?_ | refine T.region ?_ | (refine TL.isBox ?_; first | (refine TL.boxA rfl rfl ?_; intro bk w' hg hbk hsz hsz')) | (refine TL.isAlloc ?_; first | (refine TL.alloc rfl rfl ?_; intro bk w' hg hbk hsz hsz')))
  rename_i b2 w2 g2 k2 s2 t2 b3 w3 g3 k3 s3 t3
  have q2 : Blk w' b2 23 (numL A) := by exact yB
  have q3 : Blk w' b3 23 (numL B) := by exact yB
  have hA' : A < 256 ^ 32 := hA
  have hB' : B < 256 ^ 32 := hB
  apply T.any 5 [is _, is _, is _, is _, is _]; (· first | kernel_rfl); (· ((repeat' (first | exact allDo_end | refine allDo_cons ?_ ?_)); (iterate 5 (· ((first | refine does_mk0 rfl rfl rfl ?_); ( intro wq _ _ hgq; (repeat (refine need_cons rfl rfl ?_; intro vq hvq; try (obtain rfl := hvq))); (refine need_nil ?_)); (repeat (first | refine TL.nil ?_ | (refine TL.isSlice ?_; first | refine TL.sliceArr rfl (bnd_none _) (bnd_none _) (by omega) (by omega) (by omega) rfl rfl ?_) | (refine TL.isFn 86 ?_; refine TL.call rfl (rest_n _ 23 _ _ yB (by assumption)) rfl ?_; rintro _ _ ⟨rfl, hgc⟩) | (refine TL.isFn 85 ?_; refine TL.call rfl (plus_s _ _ (LN_mod _) (LN_mod _) _) rfl ?_; rintro _ _ ⟨rfl, hgc⟩))); first | exact one_end rfl yG rfl))))); (rintro _ _ _ hgr _ _; (repeat (refine need_cons rfl rfl ?_; intro vq hvq; try (obtain rfl := hvq))); (refine need_nil ?_))
  repeat (first | refine TL.nil ?_ | refine thenQ_normal ?_ | (refine TL.isStore ?_; first | (refine TL.storeWh rfl rfl yB (by exact rfl) (by exact rfl) (by exact rfl) ?_; intro w' hu hbk hsz)) | refine T.ret ?_)
  exact retC rfl (load_whole (by assumption) rfl) ⟨_, rfl, by rw [← Nat.add_mod], yG⟩
end Go.Proofs.Ytmpjigghgedjbaa
namespace Go.V
open Go Go.RowKit
section
variable {P : Program} {n : Nat} {e : Env} {w : World} {Q : Post} {ops : Array Oper} {rest : List Oper} {d : Nat} {ty : TypeId} {pos : String} {aft : Array Edge}
theorem TL.makeBytes {t elem L : Nat} {x y : Operand} [ht : SliceTy P t elem 1 1] [hz : Zero P elem (.int .u8 0)] (hx : val e x = some (.int .i64 (L : Int))) (hy : val e y = some (.int .i64 (L : Int))) (h0 : 0 < L) (hL : L ≤ 1000000) (hd : Nat.blt d n = true)
    (k : ∀ b w', Grow w w' → Blk w' b elem (List.replicate L (.int .u8 0)) → w.heap.size = b → w'.heap.size = b + 1 → TL P n ops rest ((d, .slice (some ⟨b, 0, none⟩) L L) :: e) w' Q) :
    TL P n ops (⟨some d, .makeSlice t x y, ty, pos, aft, none⟩ :: rest) e w Q := by
  obtain ⟨i, z, hi, h1, h2, h3, h4, h5⟩ := ht.info
  have hzz : z = .int .u8 0 := by have := hz.h; rw [hi] at this; simpa [h3] using this
  subst hzz
  have w1 : IntKind.i64.wrap (L : Int) = (L : Int) := IntWalk.i64_in _ ⟨by omega, by omega⟩
  have b1 : ¬ ((L : Int) < 0) := by omega
  have b2 : ¬ (281474976710656 < (L : Int)) := by omega
  have b2' : (L : Int) ≤ 281474976710656 := by omega
  have h0' : L ≠ 0 := by omega
  have e0 : (Array.range L).map (fun i => (Value.int .u8 0).cells[i % (Value.int .u8 0).cells.size]!) = (List.replicate L (Value.int .u8 0)).toArray := by
    apply Array.ext'
    simp only [Array.toList_map, Array.toList_range]
    refine List.ext_getElem? fun j => ?_
    rw [List.getElem?_map, List.getElem?_replicate]
    rcases Nat.lt_or_ge j L with h | h
    · rw [List.getElem?_range h, if_pos h]
      simp [Value.cells, Nat.mod_one]
    · rw [List.getElem?_eq_none (by simpa using h), if_neg (by omega)]
      rfl
  refine TL.run (v := .slice (some ⟨w.heap.size, 0, none⟩) L L) (w' := w.alloc (.cells (List.replicate L (.int .u8 0)).toArray elem)) (fun r hr => ?_) hd (k _ _ (grow_alloc _) (blk_alloc _ elem) rfl (by simp))
  have hzr := hz.run
  simp [execOp, hr.eval hx, hr.eval hy, Instr.makeSlice, underlying, ht.und, asIntOf, asInt, typeInfo, hi, h2, w1, b1, b2, b2', askRoom, sizeOf, h1, h0', hzr, newRow]
  rw [e0]
  simp
end
end Go.V
namespace Go.Proofs.Ytmpjigghgedjbaa
open Go Go.RowKit Go.V
def valL : List Nat → Nat
  | [] => 0
  | x :: xs => x + 256 * valL xs
theorem valL_set : ∀ (ps : List Nat) (j x : Nat), j < ps.length → valL (ps.set j (gd ps j + x)) = valL ps + x * 256 ^ j
  | p :: ps, 0, x, _ => by show p + x + 256 * valL ps = p + 256 * valL ps + x * 1; omega
  | p :: ps, j + 1, x, h => by
    have ih := valL_set ps j x (by simpa using h)
    show p + 256 * valL (ps.set j (gd ps j + x)) = p + 256 * valL ps + x * (256 ^ j * 256)
    rw [ih, Nat.mul_add, ← Nat.mul_assoc x, Nat.mul_comm 256 (x * _)]
    omega
theorem valL_zero : ∀ n, valL (List.replicate n 0) = 0
  | 0 => rfl
  | n + 1 => by show 0 + 256 * valL (List.replicate n 0) = 0; rw [valL_zero n]
def preL (ps : List Nat) (i : Nat) : Nat := valL (ps.take i)
theorem preL_0 (ps : List Nat) : preL ps 0 = 0 := rfl
theorem preL_all (ps : List Nat) : preL ps ps.length = valL ps := by unfold preL; rw [List.take_length]
theorem preL_succ : ∀ (ps : List Nat) (i : Nat), i < ps.length → preL ps (i + 1) = preL ps i + gd ps i * 256 ^ i
  | p :: ps, 0, _ => by show p + 256 * 0 = 0 + p * 1; omega
  | p :: ps, i + 1, h => by
    have ih := preL_succ ps i (by simpa using h)
    show p + 256 * preL ps (i + 1) = p + 256 * preL ps i + gd ps i * (256 ^ i * 256)
    rw [ih, Nat.mul_add, ← Nat.mul_assoc (gd ps i), Nat.mul_comm 256 (gd ps i * _)]
    omega
theorem pre_div (ps : List Nat) (i : Nat) (h : i < ps.length) : preL ps i / 256 ^ i + gd ps i = preL ps (i + 1) / 256 ^ i := by
  rw [preL_succ ps i h, Nat.add_mul_div_right _ _ (pow256 i)]
def byL (n N : Nat) : List Value := (List.range n).map fun i => B1 (byteN N i)
theorem byL_len (n N : Nat) : (byL n N).length = n := by unfold byL; simp
theorem byL_at {n N i : Nat} (h : i < n) : (byL n N)[i]? = some (B1 (byteN N i)) := by unfold byL; simp [h]
theorem byL_0 (n : Nat) : List.replicate n (Value.int .u8 0) = byL n 0 := by
  refine List.ext_getElem? fun i => ?_
  rcases Nat.lt_or_ge i n with h | h
  · rw [byL_at h, List.getElem?_replicate, if_pos h]
    unfold byteN; rw [Nat.zero_div]; rfl
  · rw [List.getElem?_eq_none (by simpa using h), List.getElem?_eq_none (by rw [byL_len]; exact h)]
theorem byL_set {n M N k x : Nat} (hk : k < n) (hx : x = byteN N k) (hl : ∀ j, j < k → byteN N j = byteN M j) : (byL n (M % 256 ^ k)).set k (B1 x) = byL n (N % 256 ^ (k + 1)) := by
  refine List.ext_getElem? fun i => ?_
  rw [List.getElem?_set]
  by_cases hki : k = i
  · subst hki
    rw [if_pos rfl, if_pos (by rw [byL_len]; exact hk), byL_at hk, low_byte (Nat.lt_succ_self k), hx]
  · rw [if_neg hki]
    rcases Nat.lt_or_ge i n with h | h
    · rw [byL_at h, byL_at h]
      rcases Nat.lt_or_ge i k with h2 | h2
      · rw [low_byte h2, low_byte (by omega), hl i h2]
      · rw [high_byte h2, high_byte (by omega)]
    · rw [List.getElem?_eq_none (by rw [byL_len]; exact h), List.getElem?_eq_none (by rw [byL_len]; exact h)]
theorem pre_low (ps : List Nat) (k : Nat) (h : k < ps.length) (j : Nat) (hj : j < k) : byteN (preL ps (k + 1)) j = byteN (preL ps k) j := by
  rw [preL_succ ps k h]
  rw [← low_byte (S := preL ps k + gd ps k * 256 ^ k) hj, ← low_byte (S := preL ps k) hj, Nat.add_mul_mod_self_right]
theorem pre_next (ps : List Nat) (i : Nat) : preL ps (i + 1) / 256 ^ i / 256 = preL ps (i + 1) / 256 ^ (i + 1) := by rw [Nat.div_div_eq_div_mul, ← Nat.pow_succ]
theorem pre_le (ps : List Nat) (B : Nat) (hB : ∀ j, gd ps j ≤ B) : ∀ i, i ≤ ps.length → preL ps i / 256 ^ i ≤ B
  | 0, _ => by rw [preL_0]; simp
  | i + 1, h => by
    have ih := pre_le ps B hB i (by omega)
    rw [← pre_next, ← pre_div ps i (by omega)]
    have := hB i
    omega
attribute [irreducible] byL valL preL
theorem Rd.byL {w : World} {b n N : Nat} {t : TypeId} (hn : 0 < n) (h : Blk w b t (byL n N)) : Rd w b 0 n N := ⟨h.lt, fun i hi => by rw [Nat.zero_add]; exact h.cell (byL_at hi)⟩
theorem wL_64 : (Value.agg #[.int .i64 0, .int .i64 0, .int .i64 0, .int .i64 0, .int .i64 0, .int .i64 0, .int .i64 0, .int .i64 0, .int .i64 0, .int .i64 0, .int .i64 0, .int .i64 0, .int .i64 0, .int .i64 0, .int .i64 0, .int .i64 0, .int .i64 0, .int .i64 0, .int .i64 0, .int .i64 0, .int .i64 0, .int .i64 0, .int .i64 0, .int .i64 0, .int .i64 0, .int .i64 0, .int .i64 0, .int .i64 0, .int .i64 0, .int .i64 0, .int .i64 0, .int .i64 0, .int .i64 0, .int .i64 0, .int .i64 0, .int .i64 0, .int .i64 0, .int .i64 0, .int .i64 0, .int .i64 0, .int .i64 0, .int .i64 0, .int .i64 0, .int .i64 0, .int .i64 0, .int .i64 0, .int .i64 0, .int .i64 0, .int .i64 0, .int .i64 0, .int .i64 0, .int .i64 0, .int .i64 0, .int .i64 0, .int .i64 0, .int .i64 0, .int .i64 0, .int .i64 0, .int .i64 0, .int .i64 0, .int .i64 0, .int .i64 0, .int .i64 0, .int .i64 0]).cells.toList = wL (List.replicate 64 0) := by unfold wL; rfl
theorem gd_rep (n j : Nat) : gd (List.replicate n 0) j = 0 := by
  unfold gd
  rw [List.getD_eq_getElem?_getD, List.getElem?_replicate]
  split <;> rfl
theorem mul_lt64 {A B : Nat} (hA : A < 256 ^ 32) (hB : B < 256 ^ 32) : A * B < 256 ^ 64 := by
  rw [show (256 : Nat) ^ 64 = 256 ^ 32 * 256 ^ 32 by rw [← Nat.pow_add]]
  exact Nat.mul_lt_mul'' hA hB
theorem mul_val_step {A B i k : Nat} : A % 256 ^ i * B + byteN A i * 256 ^ i * (B % 256 ^ k) + byteN A i * byteN B k * 256 ^ (i + k) = A % 256 ^ i * B + byteN A i * 256 ^ i * (B % 256 ^ (k + 1)) := by
  rw [byteN_low B k, Nat.pow_add, Nat.mul_add, Nat.add_assoc]
  grind
theorem bd1 {g i k m : Nat} (h : g ≤ (i * 32 + k) * 65025) (hm : m ≤ 255 * 255) : g + m ≤ (i * 32 + (k + 1)) * 65025 := by omega
theorem bd2 {g i k : Nat} (h : g ≤ (i * 32 + k) * 65025) : g ≤ (i * 32 + (k + 1)) * 65025 := Nat.le_trans h (Nat.mul_le_mul_right _ (by omega))
theorem bd3 {g i : Nat} (h : g ≤ (i * 32 + 32) * 65025) : g ≤ (i + 1) * 32 * 65025 := by rw [Nat.add_mul i 1 32, Nat.one_mul]; exact h
theorem mul_val_row {A B i : Nat} (hB : B < 256 ^ 32) : A % 256 ^ i * B + byteN A i * 256 ^ i * (B % 256 ^ 32) = A % 256 ^ (i + 1) * B := by
  rw [Nat.mod_eq_of_lt hB, byteN_low A i, Nat.add_mul]
set_option maxHeartbeats 8000000 in
set_option maxRecDepth 20000 in
theorem mul_s (A B : Nat) (hA : A < 115792089237316195423570985008687907853269984665640564039457584007913129639936) (hB : B < 115792089237316195423570985008687907853269984665640564039457584007913129639936) (w : World) : Calls Try.prog 51 #[num A, num B] w (Ret fun v w' => v = num (A * B % LN) ∧ Grow w w') := by
  refine V.calls (args := [_, _]) Try.func51 rfl Try.ntmps51 rfl rfl ?_
  repeat (first | (refine TL.isAsg ?_; first | refine TL.pure rfl rfl ?_) | refine TL.nil ?_ | refine thenQ_normal ?_ | refine T.seq ?_ | refine T.region ?_ | refine T.block ?_ | (refine TL.isBox ?_; first | (refine TL.boxA rfl rfl ?_; intro bk w' hg hbk hsz hsz')) | (refine TL.isAlloc ?_; first | (refine TL.alloc rfl rfl ?_; intro bk w' hg hbk hsz hsz')))
  rename_i b2 w2 g2 k2 s2 t2 b3 w3 g3 k3 s3 t3 b4 w4 g4 k4 s4 t4
  obtain ⟨b5, rfl⟩ : ∃ q, q = bk := ⟨_, rfl⟩
  have q2 : Blk w' b2 23 (numL A) := by exact yB
  have q3 : Blk w' b3 23 (numL B) := by exact yB
  have q4 : Blk w' b4 23 zeros := by exact yB
  have q5 : Blk w' b5 88 (wL (List.replicate 64 0)) := by rw [← wL_64]; exact hbk
  have hG : Grow w w' := by exact yG
  have n25 : b2 ≠ b5 := by omega
  have n35 : b3 ≠ b5 := by omega
  have n45 : b4 ≠ b5 := by omega
  have hw4 : w.heap.size ≤ b4 := by omega
  have hw5 : w.heap.size ≤ b5 := by omega
  clear k2 k3 k4 hbk g2 g3 g4 hg s2 t2 s3 t3 s4 t4 hsz hsz'
  refine T.loop (S := Nat) (fun i => [(6, .int .i64 (i : Int)), (2, .pointer (some ⟨b2, 0, none⟩)), (3, .pointer (some ⟨b3, 0, none⟩)), (4, .pointer (some ⟨b4, 0, none⟩)), (5, .pointer (some ⟨b5, 0, none⟩))])
    (fun i v => i ≤ 32 ∧ Blk v b2 23 (numL A) ∧ Blk v b3 23 (numL B) ∧ Blk v b4 23 zeros ∧ (∃ ps : List Nat, ps.length = 64 ∧ (∀ j, gd ps j ≤ i * 32 * 65025) ∧ valL ps = A % 256 ^ i * B ∧ Blk v b5 88 (wL ps)) ∧ Grow w v) (fun i => 32 - i) 0 ⟨rfl, rfl, rfl, rfl, rfl, trivial⟩
    ⟨by omega, q2, q3, q4, ⟨_, by simp, fun j => by rw [gd_rep]; omega, by rw [valL_zero, Nat.pow_zero, Nat.mod_one, Nat.zero_mul], q5⟩, hG⟩ ?_
  clear q2 q3 q4 q5 hG
  rintro i v ⟨hi, m2, m3, m4, ⟨ps, hpl, hpb, hpv, m5⟩, hG⟩
  have l2 := m2.lt
  have l3 := m3.lt
  have l4 := m4.lt
  have l5 := m5.lt
  rcases Nat.lt_or_ge i 32 with hi32 | hge
  · repeat (first | (refine TL.isMove ?_; first | refine TL.pure rfl rfl ?_) | (refine TL.isAsg ?_; first | refine TL.pure rfl rfl ?_) | refine TL.nil ?_ | refine thenQ_normal ?_ | refine T.seq ?_ | refine T.region ?_ | refine T.block ?_ | (refine TL.isBin ?_; first | refine TL.pureT rfl yD rfl ?_) | refine T.cond_true rfl ?_ | refine T.skip ?_)
    refine T.loop (S := Nat) (fun k => [(7, .int .i64 (k : Int)), (6, .int .i64 (i : Int)), (2, .pointer (some ⟨b2, 0, none⟩)), (3, .pointer (some ⟨b3, 0, none⟩)), (4, .pointer (some ⟨b4, 0, none⟩)), (5, .pointer (some ⟨b5, 0, none⟩))])
      (fun k v => k ≤ 32 ∧ Blk v b2 23 (numL A) ∧ Blk v b3 23 (numL B) ∧ Blk v b4 23 zeros ∧ (∃ ps : List Nat, ps.length = 64 ∧ (∀ j, gd ps j ≤ (i * 32 + k) * 65025) ∧ valL ps = A % 256 ^ i * B + byteN A i * 256 ^ i * (B % 256 ^ k) ∧ Blk v b5 88 (wL ps)) ∧ Grow w v) (fun k => 32 - k) 0 ⟨rfl, rfl, rfl, rfl, rfl, rfl, trivial⟩
      ⟨by omega, m2, m3, m4, ⟨ps, hpl, hpb, by rw [hpv, Nat.pow_zero, Nat.mod_one, Nat.mul_zero, Nat.add_zero], m5⟩, hG⟩ ?_
    clear m2 m3 m4 m5 hG l2 l3 l4 l5 hpl hpb hpv ps
    rintro k v ⟨hk, m2, m3, m4, ⟨ps, hpl, hpb, hpv, m5⟩, hG⟩
    have l2 := m2.lt
    have l3 := m3.lt
    have l4 := m4.lt
    have l5 := m5.lt
    rcases Nat.lt_or_ge k 32 with hk32 | hgk
    · have ha := byteN_lt A i
      have hb := byteN_lt B k
      have hik : i + k < ps.length := by omega
      have hik2 : i + k < 64 := by omega
      have hgb := hpb (i + k)
      have hm1 : byteN A i * byteN B k ≤ 255 * 255 := Nat.mul_le_mul (by omega) (by omega)
      have hm2 : byteN A i * byteN B k < 9223372036854775808 := by omega
      repeat (first | (refine TL.isMove ?_; first | refine TL.pure rfl rfl ?_) | refine TL.nil ?_ | refine thenQ_normal ?_ | refine T.seq ?_ | refine T.region ?_ | refine T.block ?_ | (refine TL.isBin ?_; first | refine TL.pureT rfl yD rfl ?_) | refine T.cond_true rfl ?_ | refine T.skip ?_)
      apply T.any 18 [is _, is _, is _, is _, is _, is _, is _, is _, is _, is _, is _, is _, is _, is _, is _, is _, is _, is _]; (· first | kernel_rfl); (· ((repeat' (first | exact allDo_end | refine allDo_cons ?_ ?_)); (iterate 18 (· ((first | refine does_mk0 rfl rfl rfl ?_); ( intro wq _ _ hgq; (repeat (refine need_cons rfl rfl ?_; intro vq hvq; try (obtain rfl := hvq))); (refine need_nil ?_)); (repeat (first | (refine TL.isMove ?_; first | refine TL.pure rfl rfl ?_) | (refine TL.isIndex ?_; first | refine TL.indexA1 rfl rfl (by first | omega) rfl ?_) | (refine TL.isAdd ?_; first | refine TL.addN rfl rfl (by first | omega) rfl ?_) | (refine TL.isMul ?_; first | refine TL.mulN rfl rfl (by first | omega) rfl ?_) | refine TL.nil ?_ | (refine TL.isConv ?_; first | refine TL.convN rfl (by first | omega) rfl ?_) | (refine TL.isLoad ?_; refine TL.load1 rfl (Blk.cell yB (wL_at hik)) rfl ?_) | (refine TL.isLoad ?_; refine TL.load1 rfl (Blk.cell yB (numL_at hi32)) rfl ?_) | (refine TL.isLoad ?_; refine TL.load1 rfl (Blk.cell yB (numL_at hk32)) rfl ?_))); first | exact one_end rfl yG rfl))))); (rintro _ _ _ hgr _ _; (repeat (refine need_cons rfl rfl ?_; intro vq hvq; try (obtain rfl := hvq))); (refine need_nil ?_))
      repeat (first | (refine TL.isIndex ?_; first | refine TL.indexA1 rfl rfl (by first | omega) rfl ?_))
      refine TL.storeS rfl rfl yB (by exact rfl) (by rw [wL_len]; omega) ?_
      intro w3 hu3 hbk3 hsz3
      rw [wL_set] at hbk3
      have hv := valL_set ps (i + k) (byteN A i * byteN B k) hik
      rw [hpv, mul_val_step] at hv
      repeat (first | (refine TL.isMove ?_; first | refine TL.pure rfl rfl ?_) | (refine TL.isAsg ?_; first | refine TL.pure rfl rfl ?_) | (refine TL.isAdd ?_; first | refine TL.addN rfl rfl (by first | omega) rfl ?_) | refine TL.nil ?_ | refine thenQ_normal ?_ | refine T.region ?_ | refine blockQ_normal ?_)
      exact loopQ_normal (k + 1) ⟨rfl, rfl, rfl, rfl, rfl, rfl, trivial⟩ ⟨by omega, yB, yB, yB, ⟨_, by simpa using hpl, fun j => by
        rw [gd_set hik]
        split
        · exact bd1 (hpb _) hm1
        · exact bd2 (hpb _), hv, hbk3⟩, yG⟩ (by omega)
    · obtain rfl : k = 32 := by omega
      rw [mul_val_row hB] at hpv
      repeat (first | (refine TL.isMove ?_; first | refine TL.pure rfl rfl ?_) | (refine TL.isAsg ?_; first | refine TL.pure rfl rfl ?_) | (refine TL.isAdd ?_; first | refine TL.addN rfl rfl (by first | omega) rfl ?_) | refine TL.nil ?_ | refine thenQ_normal ?_ | refine T.seq ?_ | refine T.region ?_ | refine blockQ_normal ?_ | (refine TL.isBin ?_; first | refine TL.pureF rfl yD rfl ?_) | refine T.cond_false rfl ?_ | refine T.exit ?_ | refine thenQ_exit ?_ | refine blockQ_hit ?_ | refine loopQ_exit ?_)
      exact loopQ_normal (i + 1) ⟨rfl, rfl, rfl, rfl, rfl, trivial⟩ ⟨by omega, yB, yB, yB, ⟨ps, hpl, fun j => bd3 (hpb j), hpv, yB⟩, yG⟩ (by omega)
  obtain rfl : i = 32 := by omega
  rw [Nat.mod_eq_of_lt (show A < 256 ^ 32 from hA)] at hpv
  repeat (first | (refine TL.isMove ?_; first | refine TL.pure rfl rfl ?_) | refine TL.nil ?_ | refine thenQ_normal ?_ | refine T.seq ?_ | refine T.region ?_ | (refine TL.isBin ?_; first | refine TL.pureF rfl yD rfl ?_) | refine T.cond_false rfl ?_ | refine T.exit ?_ | refine thenQ_exit ?_ | refine blockQ_hit ?_ | refine loopQ_exit ?_)
  refine TL.makeBytes (L := 64) rfl rfl (by decide) (by decide) rfl ?_
  intro b8 w8 hg8 hm8 hs8 hs8'
  have p4 : Blk w8 b4 23 zeros := by exact yB
  have p5 : Blk w8 b5 88 (wL ps) := by exact yB
  have p8 : Blk w8 b8 5 (byL 64 (preL ps 0 % 256 ^ 0)) := by rw [preL_0, Nat.zero_mod, ← byL_0]; exact hm8
  have hG8 : Grow w w8 := by exact yG
  have n84 : b8 ≠ b4 := by omega
  have n85 : b8 ≠ b5 := by omega
  have hw8 : w.heap.size ≤ b8 := by have := hG.2; omega
  clear m2 m3 m4 m5 hG hg8 hm8 l2 l3 l4 l5
  repeat (first | (refine TL.isAsg ?_; first | refine TL.pure rfl rfl ?_) | refine TL.nil ?_ | refine thenQ_normal ?_ | refine T.seq ?_ | refine T.region ?_ | refine T.block ?_)
  refine T.loop (S := Nat) (fun k => [(9, .int .i64 ((preL ps k / 256 ^ k : Nat) : Int)), (10, .int .i64 (k : Int)), (8, .slice (some ⟨b8, 0, none⟩) 64 64), (4, .pointer (some ⟨b4, 0, none⟩)), (5, .pointer (some ⟨b5, 0, none⟩))])
    (fun k v => k ≤ 64 ∧ Blk v b4 23 zeros ∧ Blk v b5 88 (wL ps) ∧ Blk v b8 5 (byL 64 (preL ps k % 256 ^ k)) ∧ Grow w v) (fun k => 64 - k) 0 ⟨by rw [preL_0, Nat.zero_div]; rfl, rfl, rfl, rfl, rfl, trivial⟩
    ⟨by omega, p4, p5, p8, hG8⟩ ?_
  clear p4 p5 p8 hG8 hs8 hs8'
  rintro k v ⟨hk, m4, m5, m8, hG⟩
  have l4 := m4.lt
  have l5 := m5.lt
  have l8 := m8.lt
  rcases Nat.lt_or_ge k 64 with hk64 | hgk
  · have hkp : k < ps.length := by omega
    have hpb' : ∀ j, gd ps j ≤ 66585600 := fun j => by have := hpb j; omega
    have hc := pre_le ps 66585600 hpb' k (by omega)
    have hgb := hpb' k
    have hd := pre_div ps k hkp
    generalize hcc : preL ps k / 256 ^ k = cc at *
    repeat (first | (refine TL.isMove ?_; first | refine TL.pure rfl rfl ?_) | (refine TL.isAsg ?_; first | refine TL.pure rfl rfl ?_) | (refine TL.isIndex ?_; first | refine TL.indexA1 rfl rfl (by first | omega) rfl ?_ | refine TL.indexAt rfl rfl (by omega) rfl rfl ?_) | (refine TL.isAdd ?_; first | refine TL.addN rfl rfl (by first | omega) rfl ?_) | refine TL.nil ?_ | refine thenQ_normal ?_ | refine T.seq ?_ | refine T.region ?_ | refine T.block ?_ | (refine TL.isRem ?_; first | refine TL.remU rfl rfl (by omega) rfl ?_) | (refine TL.isBin ?_; first | refine TL.pureT rfl yD rfl ?_) | (refine TL.isConv ?_; first | refine TL.convU rfl rfl (by omega) rfl ?_) | refine T.cond_true rfl ?_ | refine T.skip ?_ | (refine TL.isLoad ?_; refine TL.load1 rfl (Blk.cell yB (wL_at hkp)) rfl ?_))
    refine TL.storeS rfl rfl yB (by exact rfl) (by rw [byL_len]; omega) ?_
    intro w3 hu3 hbk3 hsz3
    rw [show 0 + k * 1 = k by omega, byL_set hk64 (show (cc + gd ps k) % 256 = byteN (preL ps (k + 1)) k by rw [hd]; rfl) (pre_low ps k hkp)] at hbk3
    repeat (first | (refine TL.isMove ?_; first | refine TL.pure rfl rfl ?_) | (refine TL.isAsg ?_; first | refine TL.pure rfl rfl ?_) | (refine TL.isAdd ?_; first | refine TL.addN rfl rfl (by first | omega) rfl ?_) | refine TL.nil ?_ | refine thenQ_normal ?_ | refine T.region ?_ | refine blockQ_normal ?_ | (refine TL.isQuo ?_; first | refine TL.quoN rfl rfl (by omega) (by first | omega) rfl ?_))
    exact loopQ_normal (k + 1) ⟨by rw [← pre_next, ← hd]; rfl, rfl, rfl, rfl, rfl, trivial⟩ ⟨by omega, yB, yB, hbk3, yG⟩ (by omega)
  obtain rfl : k = 64 := by omega
  have hpa : preL ps 64 = A * B := by rw [← hpl, preL_all, hpv]
  have hlt := mul_lt64 (show A < 256 ^ 32 from hA) (show B < 256 ^ 32 from hB)
  rw [hpa, Nat.mod_eq_of_lt hlt] at m8
  generalize preL ps 64 / 256 ^ 64 = cc at *
  repeat (first | (refine TL.isMove ?_; first | refine TL.pure rfl rfl ?_) | refine TL.nil ?_ | refine thenQ_normal ?_ | refine T.seq ?_ | refine T.region ?_ | (refine TL.isBin ?_; first | refine TL.pureF rfl yD rfl ?_) | refine T.cond_false rfl ?_ | refine T.exit ?_ | refine thenQ_exit ?_ | refine blockQ_hit ?_ | refine loopQ_exit ?_)
  refine TL.call rfl (rest_s (A * B) 64 64 b8 0 (by decide) hlt _ (Rd.byL (by decide) m8)) rfl ?_
  rintro _ w9 ⟨rfl, hg9⟩
  repeat (first | refine TL.nil ?_ | refine thenQ_normal ?_ | (refine TL.isStore ?_; first | (refine TL.storeWh rfl rfl yB (by exact rfl) (by exact rfl) (by exact rfl) ?_; intro w' hu hbk hsz)) | refine T.ret ?_)
  exact retC rfl (load_whole (by assumption) rfl) ⟨_, rfl, rfl, yG⟩
end Go.Proofs.Ytmpjigghgedjbaa
