import Derived.Test.YtmpjigghgedjbaaDe
import Derived.Test.YtmpjigghgedjbaaDf
import Derived.Test.YtmpjigghgedjbaaDd
import Derived.Test.YtmpjigghgedjbaaDb
set_option linter.unusedSimpArgs false
set_option linter.unusedVariables false
set_option linter.unusedSectionVars false
set_option maxHeartbeats 16000000
set_option maxRecDepth 100000
namespace Go.Proofs.Ytmpjigghgedjbaa
open Go Go.RowKit Go.V
theorem bits_c (i : Nat) (hi : i < 100) (w : World) : Calls Try.prog 97 #[.int .i64 (i : Int)] w (Ret fun v w' => v = .int .u64 (bitsN i : Int) ∧ w' = w) := by
 refine V.calls (args := [_]) Try.func97 rfl Try.ntmps97 rfl rfl ?_
 repeat (first | (refine TL.isMove ?_; refine TL.pure rfl rfl ?_) | (refine TL.isAsg ?_; refine TL.pure rfl rfl ?_) | refine TL.nil ?_ | refine thenQ_normal ?_ | refine T.seq ?_ | refine T.region ?_ | (refine TL.isRem ?_; refine TL.remU rfl rfl (by omega) rfl ?_) | (refine TL.isBin ?_; refine TL.pure rfl rfl ?_))
 rcases Nat.mod_two_eq_zero_or_one i with h | h
 ·refine T.cond_yes rfl (by rw [h]; rfl) ?_
  repeat (first | (refine TL.isAsg ?_; refine TL.pure rfl rfl ?_) | refine TL.nil ?_ | refine thenQ_normal ?_ | refine T.seq ?_ | refine T.region ?_ | refine T.ret ?_ | refine thenQ_ret ?_)
  exact ret1 rfl ⟨_, rfl, by unfold bitsN; rw [if_pos h]; rfl, rfl⟩
 ·refine T.cond_no rfl (by rw [h]; rfl) ?_
  repeat (first | (refine TL.isAsg ?_; refine TL.pure rfl rfl ?_) | refine TL.nil ?_ | refine thenQ_normal ?_ | refine T.seq ?_ | refine T.region ?_ | refine T.ret ?_ | refine T.skip ?_)
  exact ret1 rfl ⟨_, rfl, by unfold bitsN; rw [if_neg (by omega)]; rfl, rfl⟩
def Bd (i : Nat) (ws : List Nat) : Prop := (∀ j, j ≠ i → gd ws j < 4611686018427387904) ∧ gd ws i < 4611687667694829568
theorem bd_step {i : Nat} {ws : List Nat} (hi : i < 9) (hl : ws.length = 10) (h : Bd i ws) : Bd (i + 1) (cstep i ws) := by
 obtain ⟨h1, h2⟩ := h
 have hp := pow_bits i
 have e : cstep i ws = (ws.set i (gd ws i - gd ws i / 2 ^ bitsN i * 2 ^ bitsN i)).set (i + 1) (gd (ws.set i (gd ws i - gd ws i / 2 ^ bitsN i * 2 ^ bitsN i)) (i + 1) + gd ws i / 2 ^ bitsN i) := by
  unfold cstep; rw [if_neg (by omega)]
 rw [e]
 have hc : gd ws i / 2 ^ bitsN i < 1649267441664 := by rcases hp with h | h <;> rw [h] <;> omega
 have hr : gd ws i - gd ws i / 2 ^ bitsN i * 2 ^ bitsN i < 4611686018427387904 := by rcases hp with h | h <;> rw [h] <;> omega
 have h3 := h1 (i + 1) (by omega)
 refine ⟨fun j hj => ?_, ?_⟩
 ·rw [gd_set (by simp; omega), if_neg hj, gd_set (by omega)]
  split
  ·exact hr
  ·exact h1 j (by omega)
 ·rw [gd_set (by simp; omega), if_pos rfl, gd_set (by omega), if_neg (by omega)]
  omega
theorem cstep_len (i : Nat) (ws : List Nat) : (cstep i ws).length = ws.length := by unfold cstep; simp only; split <;> simp
theorem wL_one (ws : List Nat) : (wL ws).all Value.oneCell' = true := by
 unfold wL
 rw [List.all_eq_true]
 intro v hv
 obtain ⟨x, _, rfl⟩ := List.mem_map.1 hv
 rfl
theorem carry_c (ws : List Nat) (hl : ws.length = 10) (hb : ∀ i, gd ws i < 4611686018427387904) (w : World) :
  Calls Try.prog 96 #[tenV ws] w (Ret fun v w' => v = tenV (carryL ws) ∧ Grow w w') := by
 refine V.calls (args := [_]) Try.func96 rfl Try.ntmps96 rfl rfl ?_
 repeat (first | (refine TL.isAsg ?_; refine TL.pure rfl rfl ?_) | refine TL.nil ?_ | refine thenQ_normal ?_ | refine T.seq ?_ | refine T.region ?_ | refine T.block ?_ | (refine TL.isBox ?_; (refine TL.boxA rfl rfl ?_; intro bk w' hg hbk hsz hsz')) | (refine TL.isAlloc ?_; (refine TL.alloc rfl rfl ?_; intro bk w' hg hbk hsz hsz')))
 rename_i b1 w1 g1 k1 s1 t1
 have c1 : Blk w' b1 75 (wL ws) := by exact yB
 have hne : b1 ≠ bk := by omega
 have hw1 : w.heap.size ≤ b1 := by have := g1.2; omega
 have hwk : w.heap.size ≤ bk := by have := g1.2; omega
 have hG : Grow w w' := by exact yG
 refine T.loop (S := Nat × List Nat) (fun s => [(3, .int .i64 (s.1 : Int)), (1, .pointer (some ⟨b1, 0, none⟩)), (2, .pointer (some ⟨bk, 0, none⟩))])
  (fun s v => s.1 ≤ 10 ∧ s.2.length = 10 ∧ (s.1 < 10 → Bd s.1 s.2) ∧ cfrom (10 - s.1) s.2 = carryL ws ∧ Blk v b1 75 (wL s.2) ∧ Blk v bk 75 [I1 0, I1 0, I1 0, I1 0, I1 0, I1 0, I1 0, I1 0, I1 0, I1 0] ∧ Grow w v) (fun s => 10 - s.1) (0, ws) ⟨rfl, rfl, rfl, trivial⟩
  ⟨by omega, hl, fun _ => ⟨fun j _ => hb j, Nat.lt_of_lt_of_le (hb 0) (by decide)⟩, by unfold carryL; rfl, c1, hbk, hG⟩ ?_
 clear c1 hG k1 g1 hg hbk hsz hsz' s1 t1
 rintro ⟨i, us⟩ v ⟨hi, hlu, hbd, hcf, m1, m2, hG⟩
 simp only at hi hlu hbd hcf m1
 refine T.weaken (e' := [(3, .int .i64 (i : Int)), (1, _), (2, _)]) ?_ ⟨rfl, rfl, rfl, trivial⟩
 have n1 := m1.lt
 have n2 := m2.lt
 rcases Nat.lt_or_ge i 10 with hlt | hge
 ·replace hbd := hbd hlt
  have hp := pow_bits i
  have hbl := bitsN_le i
  have hgi : gd us i < 4611687667694829568 := hbd.2
  have hc : gd us i / 2 ^ bitsN i < 1649267441664 := by rcases hp with h | h <;> rw [h] <;> omega
  have hcm : gd us i / 2 ^ bitsN i * 2 ^ bitsN i ≤ gd us i := Nat.div_mul_le_self _ _
  have hcm2 : gd us i / 2 ^ bitsN i * 2 ^ bitsN i < 9223372036854775808 := by omega
  have hl1 : ∀ x, (us.set i x).length = 10 := by intro x; simpa using hlu
  repeat (first | (refine TL.isMove ?_; refine TL.pure rfl rfl ?_) | refine TL.nil ?_ | refine thenQ_normal ?_ | refine T.seq ?_ | refine T.region ?_ | refine T.block ?_ | (refine TL.isBin ?_; refine TL.pureT rfl yD rfl ?_) | refine T.cond_true rfl ?_ | refine T.skip ?_)
  apply T.any 6 [is _, is _, is _, is _, is _, is _]; (· kernel_rfl); (· ((repeat' (first | exact allDo_end | refine allDo_cons ?_ ?_)); (iterate 6 (· ((refine does_mk0 rfl rfl rfl ?_); ( intro wq _ _ hgq; (repeat (refine need_cons rfl rfl ?_; intro vq hvq; try (obtain rfl := hvq))); (refine need_nil ?_)); (repeat (first | (refine TL.isMove ?_; refine TL.pure rfl rfl ?_) | (refine TL.isIndex ?_; refine TL.indexA1 rfl rfl (by omega) rfl ?_) | refine TL.nil ?_ | (refine TL.isShr ?_; refine TL.shrS rfl rfl (by (simp only [IntKind.bits]; omega)) rfl ?_) | (refine TL.isLoad ?_; refine TL.load1 rfl (Blk.cell yB (wL_at (by omega))) rfl ?_) | (refine TL.isFn 97 ?_; refine TL.call rfl (bits_c i (by omega) _) rfl ?_; rintro _ _ ⟨rfl, rfl⟩))); exact one_end rfl yG rfl))))); (rintro _ _ _ hgr _ _; (repeat (refine need_cons rfl rfl ?_; intro vq hvq; try (obtain rfl := hvq))); (refine need_nil ?_))
  repeat (first | (refine TL.isAsg ?_; refine TL.pure rfl rfl ?_) | refine TL.nil ?_ | refine thenQ_normal ?_ | refine T.seq ?_)
  apply T.any 9 [is _, is _, is _, is _, is _, is _, is _, is _, is _]; (· kernel_rfl); (· ((repeat' (first | exact allDo_end | refine allDo_cons ?_ ?_)); (iterate 9 (· ((refine does_mk0 rfl rfl rfl ?_); ( intro wq _ _ hgq; (repeat (refine need_cons rfl rfl ?_; intro vq hvq; try (obtain rfl := hvq))); (refine need_nil ?_)); (repeat (first | (refine TL.isMove ?_; refine TL.pure rfl rfl ?_) | (refine TL.isIndex ?_; refine TL.indexA1 rfl rfl (by omega) rfl ?_) | (refine TL.isSub ?_; refine TL.subN rfl rfl (by omega) (by omega) rfl ?_) | refine TL.nil ?_ | (refine TL.isShl ?_; refine TL.shlN rfl rfl (by omega) (by omega) rfl ?_) | (refine TL.isLoad ?_; refine TL.load1 rfl (Blk.cell yB (wL_at (by omega))) rfl ?_) | (refine TL.isFn 97 ?_; refine TL.call rfl (bits_c i (by omega) _) rfl ?_; rintro _ _ ⟨rfl, rfl⟩))); exact one_end rfl yG rfl))))); (rintro _ _ _ hgr _ _; (repeat (refine need_cons rfl rfl ?_; intro vq hvq; try (obtain rfl := hvq))); (refine need_nil ?_))
  repeat ((refine TL.isIndex ?_; refine TL.indexA1 rfl rfl (by omega) rfl ?_))
  refine TL.storeS rfl rfl yB (by exact rfl) (by rw [wL_len]; omega) ?_
  intro w2 hu2 hbk2 hsz2
  rw [wL_set] at hbk2
  have c2 : Blk w2 bk 75 [I1 0, I1 0, I1 0, I1 0, I1 0, I1 0, I1 0, I1 0, I1 0, I1 0] := by exact yB
  have hG2 : Grow w w2 := by exact yG
  have o1 := hbk2.lt
  have o2 := c2.lt
  refine TL.nil ?_
  refine thenQ_normal ?_
  refine T.seq ?_
  refine T.region ?_
  refine TL.pure rfl rfl ?_
  refine TL.pure rfl rfl ?_
  refine TL.nil ?_
  refine thenQ_normal ?_
  have hlx : (us.set i (gd us i - gd us i / 2 ^ bitsN i * 2 ^ bitsN i)).length = 10 := hl1 _
  rcases Nat.lt_or_ge i 9 with h9 | h9
  ·refine T.cond_no rfl (beq_eq_false_iff_ne.2 (by omega)) ?_
   have hg1 : gd (us.set i (gd us i - gd us i / 2 ^ bitsN i * 2 ^ bitsN i)) (i + 1) < 4611686018427387904 := by rw [gd_set (by omega), if_neg (by omega)]; exact hbd.1 _ (by omega)
   repeat (first | (refine TL.isMove ?_; refine TL.pure rfl rfl ?_) | (refine TL.isIndex ?_; refine TL.indexA1 rfl rfl (by omega) rfl ?_) | (refine TL.isAdd ?_; refine TL.addN rfl rfl (by omega) rfl ?_) | refine T.region ?_ | (refine TL.isLoad ?_; refine TL.load1 rfl (Blk.cell yB (wL_at (by omega))) rfl ?_))
   refine TL.storeS rfl rfl yB (by exact rfl) (by rw [wL_len]; omega) ?_
   intro w3 hu3 hbk3 hsz3
   rw [wL_set] at hbk3
   have e3 : cstep i us = (us.set i (gd us i - gd us i / 2 ^ bitsN i * 2 ^ bitsN i)).set (i + 1) (gd (us.set i (gd us i - gd us i / 2 ^ bitsN i * 2 ^ bitsN i)) (i + 1) + gd us i / 2 ^ bitsN i) := by
    unfold cstep; rw [if_neg (by omega)]
   rw [← e3] at hbk3
   repeat (first | (refine TL.isMove ?_; refine TL.pure rfl rfl ?_) | (refine TL.isAsg ?_; refine TL.pure rfl rfl ?_) | (refine TL.isAdd ?_; refine TL.addN rfl rfl (by omega) rfl ?_) | refine TL.nil ?_ | refine thenQ_normal ?_ | refine T.region ?_ | refine blockQ_normal ?_)
   exact loopQ_normal (i + 1, cstep i us) ⟨rfl, rfl, rfl, trivial⟩ ⟨by omega, by rw [cstep_len]; exact hlu, fun _ => bd_step h9 hlu hbd, by rw [← cfrom_succ (by omega)]; exact hcf, hbk3, yB, yG⟩ (by simp only; omega)
  ·obtain rfl : i = 9 := by omega
   refine T.cond_yes rfl rfl ?_
   have hg1 : gd (us.set 9 (gd us 9 - gd us 9 / 2 ^ bitsN 9 * 2 ^ bitsN 9)) 0 < 4611686018427387904 := by rw [gd_set (by omega), if_neg (by omega)]; exact hbd.1 _ (by omega)
   repeat (first | (refine TL.isMove ?_; refine TL.pure rfl rfl ?_) | (refine TL.isIndex ?_; refine TL.indexA1 rfl rfl (by omega) rfl ?_) | (refine TL.isAdd ?_; refine TL.addN rfl rfl (by omega) rfl ?_) | (refine TL.isMul ?_; refine TL.mulN rfl rfl (by omega) rfl ?_) | refine T.region ?_ | (refine TL.isLoad ?_; refine TL.load1 rfl (Blk.cell yB (wL_at (by omega))) rfl ?_))
   refine TL.storeS rfl rfl yB (by exact rfl) (by rw [wL_len]; omega) ?_
   intro w3 hu3 hbk3 hsz3
   rw [wL_set] at hbk3
   have e3 : cstep 9 us = (us.set 9 (gd us 9 - gd us 9 / 2 ^ bitsN 9 * 2 ^ bitsN 9)).set 0 (gd (us.set 9 (gd us 9 - gd us 9 / 2 ^ bitsN 9 * 2 ^ bitsN 9)) 0 + 19 * (gd us 9 / 2 ^ bitsN 9)) := by
    unfold cstep; rw [if_pos rfl]
   rw [← e3] at hbk3
   repeat (first | (refine TL.isMove ?_; refine TL.pure rfl rfl ?_) | (refine TL.isAsg ?_; refine TL.pure rfl rfl ?_) | (refine TL.isAdd ?_; refine TL.addN rfl rfl (by omega) rfl ?_) | refine TL.nil ?_ | refine thenQ_normal ?_ | refine T.region ?_ | refine blockQ_normal ?_)
   exact loopQ_normal (10, cstep 9 us) ⟨rfl, rfl, rfl, trivial⟩ ⟨by simp only; omega, by simp only [cstep_len]; exact hlu, fun h => absurd h (by simp), by rw [← hcf]; exact (cfrom_succ (by omega) us).symm, hbk3, yB, yG⟩ (by simp only; omega)
 ·obtain rfl : i = 10 := by omega
  have hus : us = carryL ws := by rw [← hcf]; unfold cfrom; rfl
  subst hus
  have hwl : (wL (carryL ws)).length = 10 := by rw [wL_len]; exact carry_len hl
  repeat (first | (refine TL.isMove ?_; refine TL.pure rfl rfl ?_) | refine TL.nil ?_ | refine thenQ_normal ?_ | refine T.seq ?_ | refine T.region ?_ | (refine TL.isBin ?_; refine TL.pureF rfl yD rfl ?_) | refine T.cond_false rfl ?_ | refine T.ret ?_ | refine T.exit ?_ | refine thenQ_exit ?_ | refine blockQ_hit ?_ | refine loopQ_exit ?_ | (refine TL.isLoad ?_; refine TL.loadW rfl yB (by rw [hwl]; rfl) rfl ?_) | (refine TL.isStore ?_; refine TL.storeWh rfl rfl yB (by rw [hwl]; rfl) (by exact rfl) (wL_one _) ?_; intro w' hu hbk hsz))
  exact retC rfl (load_whole (by assumption) (by rw [hwl]; rfl)) ⟨_, rfl, rfl, yG⟩
end Go.Proofs.Ytmpjigghgedjbaa
namespace Go.Proofs.Ytmpjigghgedjbaa
open Go Go.RowKit Go.V
theorem b1_eq {x y : Nat} (h : x = y) : some (B1 x) = some (B1 y) := by rw [h]
def byteN (N i : Nat) : Nat := N / 256 ^ i % 256
theorem byteN_lt (N i : Nat) : byteN N i < 256 := Nat.mod_lt _ (by decide)
theorem numL_at {N : Nat} : ∀ {i : Nat}, i < 32 → (numL N)[i]? = some (B1 (byteN N i))
 | 0, _ => b1_eq (show (N % 18446744073709551616) % 256 = N / 1 % 256 by omega)
 | 1, _ => b1_eq (show (N % 18446744073709551616) / 256 % 256 = N / 256 % 256 by omega)
 | 2, _ => b1_eq (show (N % 18446744073709551616) / 65536 % 256 = N / 65536 % 256 by omega)
 | 3, _ => b1_eq (show (N % 18446744073709551616) / 16777216 % 256 = N / 16777216 % 256 by omega)
 | 4, _ => b1_eq (show (N % 18446744073709551616) / 4294967296 % 256 = N / 4294967296 % 256 by omega)
 | 5, _ => b1_eq (show (N % 18446744073709551616) / 1099511627776 % 256 = N / 1099511627776 % 256 by omega)
 | 6, _ => b1_eq (show (N % 18446744073709551616) / 281474976710656 % 256 = N / 281474976710656 % 256 by omega)
 | 7, _ => b1_eq (show (N % 18446744073709551616) / 72057594037927936 % 256 = N / 72057594037927936 % 256 by omega)
 | 8, _ => b1_eq (show (N / 18446744073709551616 % 18446744073709551616) % 256 = N / 18446744073709551616 % 256 by omega)
 | 9, _ => b1_eq (show (N / 18446744073709551616 % 18446744073709551616) / 256 % 256 = N / 4722366482869645213696 % 256 by omega)
 | 10, _ => b1_eq (show (N / 18446744073709551616 % 18446744073709551616) / 65536 % 256 = N / 1208925819614629174706176 % 256 by omega)
 | 11, _ => b1_eq (show (N / 18446744073709551616 % 18446744073709551616) / 16777216 % 256 = N / 309485009821345068724781056 % 256 by omega)
 | 12, _ => b1_eq (show (N / 18446744073709551616 % 18446744073709551616) / 4294967296 % 256 = N / 79228162514264337593543950336 % 256 by omega)
 | 13, _ => b1_eq (show (N / 18446744073709551616 % 18446744073709551616) / 1099511627776 % 256 = N / 20282409603651670423947251286016 % 256 by omega)
 | 14, _ => b1_eq (show (N / 18446744073709551616 % 18446744073709551616) / 281474976710656 % 256 = N / 5192296858534827628530496329220096 % 256 by omega)
 | 15, _ => b1_eq (show (N / 18446744073709551616 % 18446744073709551616) / 72057594037927936 % 256 = N / 1329227995784915872903807060280344576 % 256 by omega)
 | 16, _ => b1_eq (show (N / 340282366920938463463374607431768211456 % 18446744073709551616) % 256 = N / 340282366920938463463374607431768211456 % 256 by omega)
 | 17, _ => b1_eq (show (N / 340282366920938463463374607431768211456 % 18446744073709551616) / 256 % 256 = N / 87112285931760246646623899502532662132736 % 256 by omega)
 | 18, _ => b1_eq (show (N / 340282366920938463463374607431768211456 % 18446744073709551616) / 65536 % 256 = N / 22300745198530623141535718272648361505980416 % 256 by omega)
 | 19, _ => b1_eq (show (N / 340282366920938463463374607431768211456 % 18446744073709551616) / 16777216 % 256 = N / 5708990770823839524233143877797980545530986496 % 256 by omega)
 | 20, _ => b1_eq (show (N / 340282366920938463463374607431768211456 % 18446744073709551616) / 4294967296 % 256 = N / 1461501637330902918203684832716283019655932542976 % 256 by omega)
 | 21, _ => b1_eq (show (N / 340282366920938463463374607431768211456 % 18446744073709551616) / 1099511627776 % 256 = N / 374144419156711147060143317175368453031918731001856 % 256 by omega)
 | 22, _ => b1_eq (show (N / 340282366920938463463374607431768211456 % 18446744073709551616) / 281474976710656 % 256 = N / 95780971304118053647396689196894323976171195136475136 % 256 by omega)
 | 23, _ => b1_eq (show (N / 340282366920938463463374607431768211456 % 18446744073709551616) / 72057594037927936 % 256 = N / 24519928653854221733733552434404946937899825954937634816 % 256 by omega)
 | 24, _ => b1_eq (show (N / 6277101735386680763835789423207666416102355444464034512896 % 18446744073709551616) % 256 = N / 6277101735386680763835789423207666416102355444464034512896 % 256 by omega)
 | 25, _ => b1_eq (show (N / 6277101735386680763835789423207666416102355444464034512896 % 18446744073709551616) / 256 % 256 = N / 1606938044258990275541962092341162602522202993782792835301376 % 256 by omega)
 | 26, _ => b1_eq (show (N / 6277101735386680763835789423207666416102355444464034512896 % 18446744073709551616) / 65536 % 256 = N / 411376139330301510538742295639337626245683966408394965837152256 % 256 by omega)
 | 27, _ => b1_eq (show (N / 6277101735386680763835789423207666416102355444464034512896 % 18446744073709551616) / 16777216 % 256 = N / 105312291668557186697918027683670432318895095400549111254310977536 % 256 by omega)
 | 28, _ => b1_eq (show (N / 6277101735386680763835789423207666416102355444464034512896 % 18446744073709551616) / 4294967296 % 256 = N / 26959946667150639794667015087019630673637144422540572481103610249216 % 256 by omega)
 | 29, _ => b1_eq (show (N / 6277101735386680763835789423207666416102355444464034512896 % 18446744073709551616) / 1099511627776 % 256 = N / 6901746346790563787434755862277025452451108972170386555162524223799296 % 256 by omega)
 | 30, _ => b1_eq (show (N / 6277101735386680763835789423207666416102355444464034512896 % 18446744073709551616) / 281474976710656 % 256 = N / 1766847064778384329583297500742918515827483896875618958121606201292619776 % 256 by omega)
 | 31, _ => b1_eq (show (N / 6277101735386680763835789423207666416102355444464034512896 % 18446744073709551616) / 72057594037927936 % 256 = N / 452312848583266388373324160190187140051835877600158453279131187530910662656 % 256 by omega)
 | _ + 32, h => absurd h (by omega)
end Go.Proofs.Ytmpjigghgedjbaa
namespace Go.Proofs.Ytmpjigghgedjbaa
open Go Go.V
theorem numL_len (N : Nat) : (numL N).length = 32 := rfl
theorem numL_ext {l : List Value} {N : Nat} (hl : l.length = 32) (h : ∀ i, i < 32 → l[i]? = some (B1 (byteN N i))) : l = numL N := by
 refine List.ext_getElem? fun i => ?_
 rcases Nat.lt_or_ge i 32 with hi | hi
 ·rw [h i hi, numL_at hi]
 ·rw [List.getElem?_eq_none (by omega), List.getElem?_eq_none (by rw [numL_len]; exact hi)]
theorem numL_set {N M t : Nat} {x : Nat} (ht : t < 32) (hx : x = byteN M t) (h : ∀ i, i < 32 → i ≠ t → byteN M i = byteN N i) : (numL N).set t (B1 x) = numL M := by
 refine numL_ext (by simp [numL_len]) fun i hi => ?_
 rw [List.getElem?_set]
 by_cases hit : t = i
 ·subst hit; rw [if_pos rfl, if_pos (by rw [numL_len]; exact hi), hx]
 ·rw [if_neg hit, numL_at hi, h i hi (fun e => hit e.symm)]
theorem two_256 (i : Nat) : 256 ^ i = 2 ^ (8 * i) := by rw [Nat.pow_mul]
theorem byte_bit (N t : Nat) : byteN N (t / 8) / 2 ^ (t % 8) % 2 = N / 2 ^ t % 2 := by
 have e : 2 ^ t = 256 ^ (t / 8) * 2 ^ (t % 8) := by rw [two_256, ← Nat.pow_add, Nat.div_add_mod]
 rw [e, ← Nat.div_div_eq_div_mul]
 unfold byteN
 generalize N / 256 ^ (t / 8) = M
 have h8 : t % 8 < 8 := Nat.mod_lt _ (by decide)
 generalize t % 8 = r at *
 obtain rfl | rfl | rfl | rfl | rfl | rfl | rfl | rfl : r = 0 ∨ r = 1 ∨ r = 2 ∨ r = 3 ∨ r = 4 ∨ r = 5 ∨ r = 6 ∨ r = 7 := by omega
 all_goals (simp only [Nat.reducePow]; omega)
theorem pow8_lt {r : Nat} (h : r < 8) : 2 ^ r ≤ 128 := by
 obtain rfl | rfl | rfl | rfl | rfl | rfl | rfl | rfl : r = 0 ∨ r = 1 ∨ r = 2 ∨ r = 3 ∨ r = 4 ∨ r = 5 ∨ r = 6 ∨ r = 7 := by omega
 all_goals decide
theorem put_small {N t : Nat} (hN : N < 2 ^ t) : byteN N (t / 8) < 2 ^ (t % 8) := by
 have e : 2 ^ t = 256 ^ (t / 8) * 2 ^ (t % 8) := by rw [two_256, ← Nat.pow_add, Nat.div_add_mod]
 have h1 : N / 256 ^ (t / 8) < 2 ^ (t % 8) := Nat.div_lt_of_lt_mul (by rw [← e]; exact hN)
 have h2 := pow8_lt (Nat.mod_lt t (show 0 < 8 by decide))
 unfold byteN
 rw [Nat.mod_eq_of_lt (by omega)]
 exact h1
theorem put_bit {N t : Nat} (ht : t < 256) (hN : N < 2 ^ t) : (numL N).set (t / 8) (B1 (byteN N (t / 8) + 2 ^ (t % 8))) = numL (N + 2 ^ t) := by
 have e : 2 ^ t = 256 ^ (t / 8) * 2 ^ (t % 8) := by rw [two_256, ← Nat.pow_add, Nat.div_add_mod]
 have hs := put_small hN
 have h2 := pow8_lt (Nat.mod_lt t (show 0 < 8 by decide))
 refine numL_set (by omega) ?_ ?_
 ·unfold byteN at hs ⊢
  have h1 : N / 256 ^ (t / 8) < 2 ^ (t % 8) := Nat.div_lt_of_lt_mul (by rw [← e]; exact hN)
  have h3 : (N + 2 ^ t) / 256 ^ (t / 8) = N / 256 ^ (t / 8) + 2 ^ (t % 8) := by rw [e, Nat.add_mul_div_left _ _ (Nat.pow_pos (by decide))]
  rw [h3, Nat.mod_eq_of_lt (show N / 256 ^ (t / 8) < 256 by omega), Nat.mod_eq_of_lt (show N / 256 ^ (t / 8) + 2 ^ (t % 8) < 256 by omega)]
 ·intro i _ hne
  unfold byteN
  rcases Nat.lt_or_ge i (t / 8) with hi | hi
  ·have e2 : 2 ^ t = 256 ^ i * (256 * 2 ^ (t - 8 * i - 8)) := by
    rw [two_256, show 256 = 2 ^ 8 from rfl, ← Nat.pow_add, ← Nat.pow_add]; congr 1; omega
   rw [e2, Nat.add_mul_div_left _ _ (Nat.pow_pos (by decide)), Nat.add_mul_mod_self_left]
  ·have h3 : N + 2 ^ t < 256 ^ i := by
    have : 2 ^ (t + 1) ≤ 256 ^ i := by rw [two_256]; exact Nat.pow_le_pow_right (by decide) (by omega)
    rw [Nat.pow_succ] at this
    omega
   rw [Nat.div_eq_of_lt h3, Nat.div_eq_of_lt (by omega)]
def offN (i : Nat) : Nat := (51 * i + 1) / 2
theorem offN_succ (i : Nat) : offN (i + 1) = offN i + bitsN i := by unfold offN bitsN; split <;> omega
def lenN (i : Nat) : Nat := if i = 9 then 26 else bitsN i
theorem lenN_le {i : Nat} (h : i < 10) : offN i + lenN i ≤ 256 := by
 unfold lenN offN bitsN; split <;> (try split) <;> omega
def opL (N i k : Nat) : List Nat := (List.range 10).map fun j => if j < i then N / 2 ^ offN j % 2 ^ lenN j else if j = i then N / 2 ^ offN i % 2 ^ k else 0
theorem opL_len (N i k : Nat) : (opL N i k).length = 10 := by unfold opL; simp
theorem opL_gd (N i k j : Nat) (hj : j < 10) : gd (opL N i k) j = if j < i then N / 2 ^ offN j % 2 ^ lenN j else if j = i then N / 2 ^ offN i % 2 ^ k else 0 := by
 unfold gd opL
 rw [List.getD_eq_getElem?_getD, List.getElem?_map, List.getElem?_range hj]
 rfl
theorem ten_ext {l l' : List Nat} (h : l.length = 10) (h' : l'.length = 10) (hg : ∀ i, i < 10 → gd l i = gd l' i) : l = l' := by
 refine List.ext_getElem? fun i => ?_
 rcases Nat.lt_or_ge i 10 with hi | hi
 ·have := hg i hi
  unfold gd at this
  rw [List.getD_eq_getElem?_getD, List.getD_eq_getElem?_getD, List.getElem?_eq_getElem (by omega), List.getElem?_eq_getElem (by omega)] at this
  rw [List.getElem?_eq_getElem (by omega), List.getElem?_eq_getElem (by omega)]
  exact congrArg some this
 ·rw [List.getElem?_eq_none (by omega), List.getElem?_eq_none (by omega)]
theorem opL_next (N i : Nat) (hi : i < 10) : opL N i (lenN i) = opL N (i + 1) 0 := by
 refine ten_ext (opL_len _ _ _) (opL_len _ _ _) fun j hj => ?_
 rw [opL_gd _ _ _ _ hj, opL_gd _ _ _ _ hj]
 rcases Nat.lt_trichotomy j i with h | h | h
 ·rw [if_pos h, if_pos (by omega)]
 ·subst h; rw [if_neg (by omega), if_pos rfl, if_pos (by omega)]
 ·rw [if_neg (by omega), if_neg (by omega), if_neg (by omega)]
  split
  ·rw [Nat.pow_zero, Nat.mod_one]
  ·rfl
theorem opL_start (N : Nat) : opL N 0 0 = [0, 0, 0, 0, 0, 0, 0, 0, 0, 0] := by
 refine ten_ext (opL_len _ _ _) rfl fun j hj => ?_
 rw [opL_gd _ _ _ _ hj, if_neg (by omega)]
 have : gd [0, 0, 0, 0, 0, 0, 0, 0, 0, 0] j = 0 := by
  obtain rfl | rfl | rfl | rfl | rfl | rfl | rfl | rfl | rfl | rfl : j = 0 ∨ j = 1 ∨ j = 2 ∨ j = 3 ∨ j = 4 ∨ j = 5 ∨ j = 6 ∨ j = 7 ∨ j = 8 ∨ j = 9 := by omega
  all_goals rfl
 rw [this]
 split
 ·rw [Nat.pow_zero, Nat.mod_one]
 ·rfl
theorem opL_at (N i k : Nat) (hi : i < 10) : gd (opL N i k) i = N / 2 ^ offN i % 2 ^ k := by rw [opL_gd _ _ _ _ hi, if_neg (by omega), if_pos rfl]
theorem mod_bit (X k : Nat) : X % 2 ^ (k + 1) = X % 2 ^ k + X / 2 ^ k % 2 * 2 ^ k := by
 rw [Nat.pow_succ, Nat.mod_mul, Nat.mul_comm]
theorem opL_bit (N i k b : Nat) (hi : i < 10) (hb : N / 2 ^ (offN i + k) % 2 = b) : (opL N i k).set i (gd (opL N i k) i + b * 2 ^ k) = opL N i (k + 1) := by
 refine ten_ext (by simp [opL_len]) (opL_len _ _ _) fun j hj => ?_
 rw [gd_set (by rw [opL_len]; exact hi)]
 split
 ·rename_i h; subst h
  rw [opL_at _ _ _ hj, opL_at _ _ _ hj, mod_bit, Nat.div_div_eq_div_mul, ← Nat.pow_add, hb]
 ·rename_i h
  rw [opL_gd _ _ _ _ hj, opL_gd _ _ _ _ hj, if_neg h, if_neg h]
theorem opL_zero (N i k : Nat) (hi : i < 10) (hb : N / 2 ^ (offN i + k) % 2 = 0) : opL N i k = opL N i (k + 1) := by
 have := opL_bit N i k 0 hi hb
 rw [← this]
 refine ten_ext (opL_len _ _ _) (by simp [opL_len]) fun j hj => ?_
 rw [gd_set (by rw [opL_len]; exact hi)]
 split
 ·rename_i h; subst h; omega
 ·rfl
theorem opL_val {N : Nat} (hN : N < 115792089237316195423570985008687907853269984665640564039457584007913129639936) : V10 (opL N 10 0) = N := by
 have e : opL N 10 0 = [N / 1 % 67108864, N / 67108864 % 33554432, N / 2251799813685248 % 67108864, N / 151115727451828646838272 % 33554432, N / 5070602400912917605986812821504 % 67108864, N / 340282366920938463463374607431768211456 % 33554432, N / 11417981541647679048466287755595961091061972992 % 67108864, N / 766247770432944429179173513575154591809369561091801088 % 33554432, N / 25711008708143844408671393477458601640355247900524685364822016 % 67108864, N / 1725436586697640946858688965569256363112777243042596638790631055949824 % 67108864] := rfl
 rw [e]
 simp only [V10]
 rw [show 1725436586697640946858688965569256363112777243042596638790631055949824 = 25711008708143844408671393477458601640355247900524685364822016 * 67108864 from rfl, ← Nat.div_div_eq_div_mul,
  show 25711008708143844408671393477458601640355247900524685364822016 = 766247770432944429179173513575154591809369561091801088 * 33554432 from rfl, ← Nat.div_div_eq_div_mul,
  show 766247770432944429179173513575154591809369561091801088 = 11417981541647679048466287755595961091061972992 * 67108864 from rfl, ← Nat.div_div_eq_div_mul,
  show 11417981541647679048466287755595961091061972992 = 340282366920938463463374607431768211456 * 33554432 from rfl, ← Nat.div_div_eq_div_mul,
  show 340282366920938463463374607431768211456 = 5070602400912917605986812821504 * 67108864 from rfl, ← Nat.div_div_eq_div_mul,
  show 5070602400912917605986812821504 = 151115727451828646838272 * 33554432 from rfl, ← Nat.div_div_eq_div_mul,
  show 151115727451828646838272 = 2251799813685248 * 67108864 from rfl, ← Nat.div_div_eq_div_mul,
  show 2251799813685248 = 67108864 * 33554432 from rfl, ← Nat.div_div_eq_div_mul]
 obtain ⟨n1, h1⟩ : ∃ n, n = N / 67108864 := ⟨_, rfl⟩
 rw [← h1]
 obtain ⟨n2, h2⟩ : ∃ n, n = n1 / 33554432 := ⟨_, rfl⟩
 rw [← h2]
 obtain ⟨n3, h3⟩ : ∃ n, n = n2 / 67108864 := ⟨_, rfl⟩
 rw [← h3]
 obtain ⟨n4, h4⟩ : ∃ n, n = n3 / 33554432 := ⟨_, rfl⟩
 rw [← h4]
 obtain ⟨n5, h5⟩ : ∃ n, n = n4 / 67108864 := ⟨_, rfl⟩
 rw [← h5]
 obtain ⟨n6, h6⟩ : ∃ n, n = n5 / 33554432 := ⟨_, rfl⟩
 rw [← h6]
 obtain ⟨n7, h7⟩ : ∃ n, n = n6 / 67108864 := ⟨_, rfl⟩
 rw [← h7]
 obtain ⟨n8, h8⟩ : ∃ n, n = n7 / 33554432 := ⟨_, rfl⟩
 rw [← h8]
 obtain ⟨n9, h9⟩ : ∃ n, n = n8 / 67108864 := ⟨_, rfl⟩
 rw [← h9]
 omega
theorem opL_good (N : Nat) : Good (carryL (opL N 10 0)) := by
 refine carry_good (opL_len _ _ _) fun i => ?_
 rcases Nat.lt_or_ge i 10 with hi | hi
 ·rw [opL_gd _ _ _ _ hi, if_pos hi]
  have h1 : lenN i ≤ 26 := by unfold lenN bitsN; split <;> (try split) <;> omega
  have h2 : 2 ^ lenN i ≤ 2 ^ 26 := Nat.pow_le_pow_right (by decide) h1
  have h3 := Nat.mod_lt (N / 2 ^ offN i) (Nat.two_pow_pos (lenN i))
  omega
 ·unfold gd
  rw [List.getD_eq_getElem?_getD, List.getElem?_eq_none (by rw [opL_len]; exact hi)]
  decide
end Go.Proofs.Ytmpjigghgedjbaa
namespace Go.Proofs.Ytmpjigghgedjbaa
open Go Go.RowKit Go.V
theorem bd_good {ws : List Nat} {B : Nat} (hB : B ≤ 4611686018427387904) (h : ∀ i, gd ws i < B) : ∀ i, gd ws i < 4611686018427387904 := fun i => Nat.lt_of_lt_of_le (h i) hB
theorem opL_lt (N i k j : Nat) (hk : k ≤ 26) : gd (opL N i k) j < 67108865 := by
 rcases Nat.lt_or_ge j 10 with hj | hj
 ·rw [opL_gd _ _ _ _ hj]
  have h1 : lenN j ≤ 26 := by unfold lenN bitsN; split <;> (try split) <;> omega
  have h2 : 2 ^ lenN j ≤ 2 ^ 26 := Nat.pow_le_pow_right (by decide) h1
  have h3 := Nat.mod_lt (N / 2 ^ offN j) (Nat.two_pow_pos (lenN j))
  have h4 : 2 ^ k ≤ 2 ^ 26 := Nat.pow_le_pow_right (by decide) hk
  have h5 := Nat.mod_lt (N / 2 ^ offN i) (Nat.two_pow_pos k)
  split
  ·omega
  ·split <;> omega
 ·unfold gd
  rw [List.getD_eq_getElem?_getD, List.getElem?_eq_none (by rw [opL_len]; exact hj)]
  decide
theorem open_c (N : Nat) (w : World) :
  Calls Try.prog 75 #[num N] w (Ret fun v w' => v = tenV (carryL (opL N 10 0)) ∧ Grow w w') := by
 refine V.calls (args := [_]) Try.func75 rfl Try.ntmps75 rfl rfl ?_
 repeat (first | (refine TL.isAsg ?_; refine TL.pure rfl rfl ?_) | refine TL.nil ?_ | refine thenQ_normal ?_ | refine T.seq ?_ | refine T.region ?_ | refine T.block ?_ | (refine TL.isBox ?_; (refine TL.boxA rfl rfl ?_; intro bk w' hg hbk hsz hsz')) | (refine TL.isAlloc ?_; (refine TL.alloc rfl rfl ?_; intro bk w' hg hbk hsz hsz')))
 rename_i b1 w1 g1 k1 s1 t1 b2 w2 g2 k2 s2 t2
 have c1 : Blk w' b1 23 (numL N) := by exact yB
 have c2 : Blk w' b2 75 [I1 0, I1 0, I1 0, I1 0, I1 0, I1 0, I1 0, I1 0, I1 0, I1 0] := by exact yB
 have c3 : Blk w' bk 75 (wL (opL N 0 0)) := by rw [opL_start, wL_zero]; exact hbk
 have hw3 : w.heap.size ≤ bk := by have := g1.2; have := g2.2; omega
 have hw2 : w.heap.size ≤ b2 := by have := g1.2; have := g2.2; omega
 have ne12 : b1 ≠ bk := by have := g1.2; have := g2.2; omega
 have ne23 : b2 ≠ bk := by have := g1.2; have := g2.2; omega
 have hG : Grow w w' := by exact yG
 clear k1 k2 g1 g2 hg hbk s1 t1 s2 t2 hsz hsz'
 refine T.loop (S := Nat) (fun i => [(5, .int .i64 (i : Int)), (4, .int .i64 (offN i : Int)), (1, .pointer (some ⟨b1, 0, none⟩)), (2, .pointer (some ⟨b2, 0, none⟩)), (3, .pointer (some ⟨bk, 0, none⟩))])
  (fun i v => i ≤ 10 ∧ Blk v b1 23 (numL N) ∧ Blk v b2 75 [I1 0, I1 0, I1 0, I1 0, I1 0, I1 0, I1 0, I1 0, I1 0, I1 0] ∧ Blk v bk 75 (wL (opL N i 0)) ∧ Grow w v) (fun i => 10 - i) 0 ⟨rfl, rfl, rfl, rfl, rfl, trivial⟩
  ⟨by omega, c1, c2, c3, hG⟩ ?_
 clear c1 c2 c3 hG
 rintro i v ⟨hi, m1, m2, m3, hG⟩
 have n1 := m1.lt
 have n2 := m2.lt
 have n3 := m3.lt
 rcases Nat.lt_or_ge i 10 with hlt | hge
 ·have hbl := bitsN_le i
  have hle := lenN_le hlt
  have hll : lenN i ≤ 26 := by unfold lenN; split <;> omega
  have hl9 : i = 9 → lenN i = 26 := fun h => by unfold lenN; rw [if_pos h]
  have hl8 : i ≠ 9 → lenN i = bitsN i := fun h => by unfold lenN; rw [if_neg h]
  rcases Nat.lt_or_ge i 9 with h9 | h9
  ·replace hl8 := hl8 (by omega)
   clear hl9
   repeat (first | (refine TL.isMove ?_; refine TL.pure rfl rfl ?_) | (refine TL.isAsg ?_; refine TL.pure rfl rfl ?_) | refine TL.nil ?_ | refine thenQ_normal ?_ | refine T.seq ?_ | refine T.region ?_ | refine T.block ?_ | (refine TL.isBin ?_; first | refine TL.pureT rfl yD rfl ?_ | refine TL.pureF rfl yD rfl ?_) | (refine TL.isConv ?_; refine TL.convN rfl (by omega) rfl ?_) | refine T.cond_true rfl ?_ | refine T.cond_false rfl ?_ | refine T.skip ?_ | (refine TL.isFn 97 ?_; refine TL.call rfl (bits_c i (by omega) _) rfl ?_; rintro _ _ ⟨rfl, rfl⟩))
   refine T.loop (S := Nat) (fun k => [(7, .int .i64 (k : Int)), (6, .int .i64 (lenN i : Int)), (5, .int .i64 (i : Int)), (4, .int .i64 (offN i : Int)), (1, .pointer (some ⟨b1, 0, none⟩)), (2, .pointer (some ⟨b2, 0, none⟩)), (3, .pointer (some ⟨bk, 0, none⟩))])
    (fun k v => k ≤ lenN i ∧ Blk v b1 23 (numL N) ∧ Blk v b2 75 [I1 0, I1 0, I1 0, I1 0, I1 0, I1 0, I1 0, I1 0, I1 0, I1 0] ∧ Blk v bk 75 (wL (opL N i k)) ∧ Grow w v) (fun k => lenN i - k) 0 ⟨rfl, by (rw [hl8]; rfl), rfl, rfl, rfl, rfl, rfl, trivial⟩
    ⟨by omega, m1, m2, m3, hG⟩ ?_
   clear m1 m2 m3 hG n1 n2 n3
   rintro k v ⟨hk, m1, m2, m3, hG⟩
   have n1 := m1.lt
   have n2 := m2.lt
   have n3 := m3.lt
   rcases Nat.lt_or_ge k (lenN i) with hkl | hkl
   ·have h1k : 1 * 2 ^ k < 9223372036854775808 := by
     have : 2 ^ k ≤ 2 ^ 26 := Nat.pow_le_pow_right (by decide) (by omega)
     omega
    have hgl := opL_lt N i k i (by omega)
    have hpk : 2 ^ k ≤ 2 ^ 26 := Nat.pow_le_pow_right (by decide) (by omega)
    have hbb := byte_bit N (offN i + k)
    have holl := opL_len N i k
    rcases Nat.mod_two_eq_zero_or_one (N / 2 ^ (offN i + k)) with hb | hb
    ·rw [hb] at hbb
     repeat (first | refine TL.guard_run rfl rfl rfl ?_ | (refine TL.isMove ?_; refine TL.pure rfl rfl ?_) | (refine TL.isAsg ?_; refine TL.pure rfl rfl ?_) | (refine TL.isIndex ?_; refine TL.indexA1 rfl rfl (by omega) rfl ?_) | (refine TL.isAdd ?_; refine TL.addN rfl rfl (by omega) rfl ?_) | refine TL.nil ?_ | refine thenQ_normal ?_ | refine T.seq ?_ | refine T.region ?_ | refine T.block ?_ | refine blockQ_normal ?_ | (refine TL.isShr ?_; refine TL.shrS rfl rfl (by (simp only [IntKind.bits]; omega)) rfl ?_) | (refine TL.isRem ?_; refine TL.remU rfl rfl (by omega) rfl ?_) | (refine TL.isQuo ?_; refine TL.quoN rfl rfl (by omega) (by omega) rfl ?_) | (refine TL.isBin ?_; first | refine TL.pureT rfl yD rfl ?_ | refine TL.pureF rfl yD rfl ?_) | (refine TL.isConv ?_; refine TL.convU rfl rfl (by omega) rfl ?_) | refine T.cond_true rfl ?_ | refine T.cond_false rfl ?_ | refine T.skip ?_ | refine TL.pure rfl rfl ?_ | (refine TL.isLoad ?_; refine TL.load1 rfl (Blk.cell yB (numL_at (by omega))) rfl ?_))
     rw [opL_zero N i k hlt hb] at m3
     exact loopQ_normal (k + 1) ⟨rfl, rfl, rfl, rfl, rfl, rfl, rfl, trivial⟩ ⟨by omega, yB, yB, yB, yG⟩ (by omega)
    ·rw [hb] at hbb
     repeat (first | refine TL.guard_run rfl rfl rfl ?_ | (refine TL.isMove ?_; refine TL.pure rfl rfl ?_) | (refine TL.isIndex ?_; refine TL.indexA1 rfl rfl (by omega) rfl ?_) | (refine TL.isAdd ?_; refine TL.addN rfl rfl (by omega) rfl ?_) | refine TL.nil ?_ | refine thenQ_normal ?_ | refine T.seq ?_ | refine T.region ?_ | refine T.block ?_ | (refine TL.isShl ?_; refine TL.shlN rfl rfl (by omega) (by omega) rfl ?_) | (refine TL.isShr ?_; refine TL.shrS rfl rfl (by (simp only [IntKind.bits]; omega)) rfl ?_) | (refine TL.isRem ?_; refine TL.remU rfl rfl (by omega) rfl ?_) | (refine TL.isQuo ?_; refine TL.quoN rfl rfl (by omega) (by omega) rfl ?_) | (refine TL.isBin ?_; refine TL.pureT rfl yD rfl ?_) | (refine TL.isConv ?_; refine TL.convU rfl rfl (by omega) rfl ?_) | refine T.cond_true rfl ?_ | refine T.skip ?_ | refine TL.pure rfl rfl ?_ | (refine TL.isLoad ?_; refine TL.load1 rfl (Blk.cell yB (numL_at (by omega))) rfl ?_) | (refine TL.isLoad ?_; refine TL.load1 rfl (Blk.cell yB (wL_at (by rw [opL_len]; omega))) rfl ?_))
     refine TL.storeS rfl rfl yB (by exact rfl) (by rw [wL_len, opL_len]; omega) ?_
     intro w3 hu3 hbk3 hsz3
     rw [wL_set, opL_bit N i k 1 hlt hb] at hbk3
     repeat (first | (refine TL.isMove ?_; refine TL.pure rfl rfl ?_) | (refine TL.isAsg ?_; refine TL.pure rfl rfl ?_) | (refine TL.isAdd ?_; refine TL.addN rfl rfl (by omega) rfl ?_) | refine TL.nil ?_ | refine thenQ_normal ?_ | refine T.region ?_ | refine blockQ_normal ?_)
     exact loopQ_normal (k + 1) ⟨rfl, rfl, rfl, rfl, rfl, rfl, rfl, trivial⟩ ⟨by omega, yB, yB, hbk3, yG⟩ (by omega)
   ·obtain rfl : k = lenN i := by omega
    rw [opL_next N i hlt] at m3
    repeat (first | refine TL.guard_skip rfl rfl rfl ?_ | (refine TL.isMove ?_; refine TL.pure rfl rfl ?_) | (refine TL.isAsg ?_; refine TL.pure rfl rfl ?_) | (refine TL.isAdd ?_; refine TL.addN rfl rfl (by omega) rfl ?_) | refine TL.nil ?_ | refine thenQ_normal ?_ | refine T.seq ?_ | refine T.region ?_ | refine blockQ_normal ?_ | (refine TL.isBin ?_; refine TL.pureF rfl yD rfl ?_) | (refine TL.isConv ?_; refine TL.convN rfl (by omega) rfl ?_) | refine T.cond_false rfl ?_ | refine T.exit ?_ | refine thenQ_exit ?_ | refine blockQ_hit ?_ | refine loopQ_exit ?_ | refine TL.pure rfl rfl ?_ | (refine TL.isFn 97 ?_; refine TL.call rfl (bits_c i (by omega) _) rfl ?_; rintro _ _ ⟨rfl, rfl⟩))
    exact loopQ_normal (i + 1) ⟨rfl, by rw [offN_succ]; rfl, rfl, rfl, rfl, trivial⟩ ⟨by omega, yB, yB, yB, yG⟩ (by omega)
  ·replace hl9 := hl9 (by omega)
   clear hl8
   repeat (first | (refine TL.isMove ?_; refine TL.pure rfl rfl ?_) | (refine TL.isAsg ?_; refine TL.pure rfl rfl ?_) | refine TL.nil ?_ | refine thenQ_normal ?_ | refine T.seq ?_ | refine T.region ?_ | refine T.block ?_ | (refine TL.isBin ?_; refine TL.pureT rfl yD rfl ?_) | (refine TL.isConv ?_; refine TL.convN rfl (by omega) rfl ?_) | refine T.cond_true rfl ?_ | refine T.skip ?_ | (refine TL.isFn 97 ?_; refine TL.call rfl (bits_c i (by omega) _) rfl ?_; rintro _ _ ⟨rfl, rfl⟩))
   refine T.loop (S := Nat) (fun k => [(7, .int .i64 (k : Int)), (6, .int .i64 (lenN i : Int)), (5, .int .i64 (i : Int)), (4, .int .i64 (offN i : Int)), (1, .pointer (some ⟨b1, 0, none⟩)), (2, .pointer (some ⟨b2, 0, none⟩)), (3, .pointer (some ⟨bk, 0, none⟩))])
    (fun k v => k ≤ lenN i ∧ Blk v b1 23 (numL N) ∧ Blk v b2 75 [I1 0, I1 0, I1 0, I1 0, I1 0, I1 0, I1 0, I1 0, I1 0, I1 0] ∧ Blk v bk 75 (wL (opL N i k)) ∧ Grow w v) (fun k => lenN i - k) 0 ⟨rfl, by (rw [hl9]; rfl), rfl, rfl, rfl, rfl, rfl, trivial⟩
    ⟨by omega, m1, m2, m3, hG⟩ ?_
   clear m1 m2 m3 hG n1 n2 n3
   rintro k v ⟨hk, m1, m2, m3, hG⟩
   have n1 := m1.lt
   have n2 := m2.lt
   have n3 := m3.lt
   rcases Nat.lt_or_ge k (lenN i) with hkl | hkl
   ·have h1k : 1 * 2 ^ k < 9223372036854775808 := by
     have : 2 ^ k ≤ 2 ^ 26 := Nat.pow_le_pow_right (by decide) (by omega)
     omega
    have hgl := opL_lt N i k i (by omega)
    have hpk : 2 ^ k ≤ 2 ^ 26 := Nat.pow_le_pow_right (by decide) (by omega)
    have hbb := byte_bit N (offN i + k)
    have holl := opL_len N i k
    rcases Nat.mod_two_eq_zero_or_one (N / 2 ^ (offN i + k)) with hb | hb
    ·rw [hb] at hbb
     repeat (first | refine TL.guard_run rfl rfl rfl ?_ | (refine TL.isMove ?_; refine TL.pure rfl rfl ?_) | (refine TL.isAsg ?_; refine TL.pure rfl rfl ?_) | (refine TL.isIndex ?_; refine TL.indexA1 rfl rfl (by omega) rfl ?_) | (refine TL.isAdd ?_; refine TL.addN rfl rfl (by omega) rfl ?_) | refine TL.nil ?_ | refine thenQ_normal ?_ | refine T.seq ?_ | refine T.region ?_ | refine T.block ?_ | refine blockQ_normal ?_ | (refine TL.isShr ?_; refine TL.shrS rfl rfl (by (simp only [IntKind.bits]; omega)) rfl ?_) | (refine TL.isRem ?_; refine TL.remU rfl rfl (by omega) rfl ?_) | (refine TL.isQuo ?_; refine TL.quoN rfl rfl (by omega) (by omega) rfl ?_) | (refine TL.isBin ?_; first | refine TL.pureT rfl yD rfl ?_ | refine TL.pureF rfl yD rfl ?_) | (refine TL.isConv ?_; refine TL.convU rfl rfl (by omega) rfl ?_) | refine T.cond_true rfl ?_ | refine T.cond_false rfl ?_ | refine T.skip ?_ | refine TL.pure rfl rfl ?_ | (refine TL.isLoad ?_; refine TL.load1 rfl (Blk.cell yB (numL_at (by omega))) rfl ?_))
     rw [opL_zero N i k hlt hb] at m3
     exact loopQ_normal (k + 1) ⟨rfl, rfl, rfl, rfl, rfl, rfl, rfl, trivial⟩ ⟨by omega, yB, yB, yB, yG⟩ (by omega)
    ·rw [hb] at hbb
     repeat (first | refine TL.guard_run rfl rfl rfl ?_ | (refine TL.isMove ?_; refine TL.pure rfl rfl ?_) | (refine TL.isIndex ?_; refine TL.indexA1 rfl rfl (by omega) rfl ?_) | (refine TL.isAdd ?_; refine TL.addN rfl rfl (by omega) rfl ?_) | refine TL.nil ?_ | refine thenQ_normal ?_ | refine T.seq ?_ | refine T.region ?_ | refine T.block ?_ | (refine TL.isShl ?_; refine TL.shlN rfl rfl (by omega) (by omega) rfl ?_) | (refine TL.isShr ?_; refine TL.shrS rfl rfl (by (simp only [IntKind.bits]; omega)) rfl ?_) | (refine TL.isRem ?_; refine TL.remU rfl rfl (by omega) rfl ?_) | (refine TL.isQuo ?_; refine TL.quoN rfl rfl (by omega) (by omega) rfl ?_) | (refine TL.isBin ?_; refine TL.pureT rfl yD rfl ?_) | (refine TL.isConv ?_; refine TL.convU rfl rfl (by omega) rfl ?_) | refine T.cond_true rfl ?_ | refine T.skip ?_ | refine TL.pure rfl rfl ?_ | (refine TL.isLoad ?_; refine TL.load1 rfl (Blk.cell yB (numL_at (by omega))) rfl ?_) | (refine TL.isLoad ?_; refine TL.load1 rfl (Blk.cell yB (wL_at (by rw [opL_len]; omega))) rfl ?_))
     refine TL.storeS rfl rfl yB (by exact rfl) (by rw [wL_len, opL_len]; omega) ?_
     intro w3 hu3 hbk3 hsz3
     rw [wL_set, opL_bit N i k 1 hlt hb] at hbk3
     repeat (first | (refine TL.isMove ?_; refine TL.pure rfl rfl ?_) | (refine TL.isAsg ?_; refine TL.pure rfl rfl ?_) | (refine TL.isAdd ?_; refine TL.addN rfl rfl (by omega) rfl ?_) | refine TL.nil ?_ | refine thenQ_normal ?_ | refine T.region ?_ | refine blockQ_normal ?_)
     exact loopQ_normal (k + 1) ⟨rfl, rfl, rfl, rfl, rfl, rfl, rfl, trivial⟩ ⟨by omega, yB, yB, hbk3, yG⟩ (by omega)
   ·obtain rfl : k = lenN i := by omega
    rw [opL_next N i hlt] at m3
    repeat (first | refine TL.guard_skip rfl rfl rfl ?_ | (refine TL.isMove ?_; refine TL.pure rfl rfl ?_) | (refine TL.isAsg ?_; refine TL.pure rfl rfl ?_) | (refine TL.isAdd ?_; refine TL.addN rfl rfl (by omega) rfl ?_) | refine TL.nil ?_ | refine thenQ_normal ?_ | refine T.seq ?_ | refine T.region ?_ | refine blockQ_normal ?_ | (refine TL.isBin ?_; refine TL.pureF rfl yD rfl ?_) | (refine TL.isConv ?_; refine TL.convN rfl (by omega) rfl ?_) | refine T.cond_false rfl ?_ | refine T.exit ?_ | refine thenQ_exit ?_ | refine blockQ_hit ?_ | refine loopQ_exit ?_ | refine TL.pure rfl rfl ?_ | (refine TL.isFn 97 ?_; refine TL.call rfl (bits_c i (by omega) _) rfl ?_; rintro _ _ ⟨rfl, rfl⟩))
    exact loopQ_normal (i + 1) ⟨rfl, by rw [offN_succ]; rfl, rfl, rfl, rfl, trivial⟩ ⟨by omega, yB, yB, yB, yG⟩ (by omega)
 ·obtain rfl : i = 10 := by omega
  have hol := opL_len N 10 0
  have hwl : (wL (opL N 10 0)).length = 10 := by rw [wL_len, hol]
  have hwc : (wL (carryL (opL N 10 0))).length = 10 := by rw [wL_len, carry_len hol]
  repeat (first | (refine TL.isMove ?_; refine TL.pure rfl rfl ?_) | refine TL.nil ?_ | refine thenQ_normal ?_ | refine T.seq ?_ | refine T.region ?_ | (refine TL.isBin ?_; refine TL.pureF rfl yD rfl ?_) | refine T.cond_false rfl ?_ | refine T.ret ?_ | refine T.exit ?_ | refine thenQ_exit ?_ | refine blockQ_hit ?_ | refine loopQ_exit ?_ | (refine TL.isLoad ?_; refine TL.loadW rfl yB (by rw [hwl]; rfl) rfl ?_) | (refine TL.isFn 96 ?_; refine TL.call rfl (carry_c _ hol (bd_good (by decide) (fun j => opL_lt N 10 0 j (by decide))) _) rfl ?_; rintro _ _ ⟨rfl, hgc⟩) | (refine TL.isStore ?_; refine TL.storeWh rfl rfl yB (by rw [hwc]; rfl) (by exact rfl) (wL_one _) ?_; intro w' hu hbk hsz))
  exact retC rfl (load_whole (by assumption) (by rw [hwc]; rfl)) ⟨_, rfl, rfl, yG⟩
end Go.Proofs.Ytmpjigghgedjbaa
namespace Go.Proofs.Ytmpjigghgedjbaa
open Go Go.RowKit Go.V
def psN (ws : List Nat) : Nat → Nat
 | 0 => 0
 | i + 1 => psN ws i + gd ws i * 2 ^ offN i
def pvN (ws : List Nat) (i k : Nat) : Nat := psN ws i + gd ws i % 2 ^ k * 2 ^ offN i
theorem tight_at {ws : List Nat} (h : Tight ws) {i : Nat} (hi : i < 10) : gd ws i < 2 ^ bitsN i := by
 obtain ⟨w0, w1, w2, w3, w4, w5, w6, w7, w8, w9, rfl⟩ := ten h.good.len
 unfold Tight at h
 obtain ⟨h0, h1, h2, h3, h4, h5, h6, h7, h8, h9⟩ := h
 obtain rfl | rfl | rfl | rfl | rfl | rfl | rfl | rfl | rfl | rfl : i = 0 ∨ i = 1 ∨ i = 2 ∨ i = 3 ∨ i = 4 ∨ i = 5 ∨ i = 6 ∨ i = 7 ∨ i = 8 ∨ i = 9 := by omega
 ·exact h0
 ·exact h1
 ·exact h2
 ·exact h3
 ·exact h4
 ·exact h5
 ·exact h6
 ·exact h7
 ·exact h8
 ·exact h9
theorem fill_lt {x y a b : Nat} (hx : x < 2 ^ a) (hy : y < 2 ^ b) : x + y * 2 ^ a < 2 ^ (a + b) := by
 have h1 : y * 2 ^ a + 2 ^ a ≤ 2 ^ b * 2 ^ a := by
  have := Nat.mul_le_mul_right (2 ^ a) (show y + 1 ≤ 2 ^ b from hy)
  rw [Nat.add_mul, Nat.one_mul] at this
  exact this
 rw [Nat.pow_add, Nat.mul_comm (2 ^ a)]
 omega
theorem ps_lt {ws : List Nat} (h : Tight ws) : ∀ {i : Nat}, i ≤ 10 → psN ws i < 2 ^ offN i
 | 0, _ => by unfold psN; exact Nat.two_pow_pos _
 | i + 1, hi => by
  unfold psN
  rw [offN_succ]
  exact fill_lt (ps_lt h (by omega)) (tight_at h (by omega))
theorem pv_lt {ws : List Nat} (h : Tight ws) {i : Nat} (hi : i < 10) (k : Nat) : pvN ws i k < 2 ^ (offN i + k) :=
 fill_lt (ps_lt h (by omega)) (Nat.mod_lt _ (Nat.two_pow_pos k))
theorem pv_bit {ws : List Nat} {i k b : Nat} (hb : gd ws i / 2 ^ k % 2 = b) : pvN ws i (k + 1) = pvN ws i k + b * 2 ^ (offN i + k) := by
 unfold pvN
 rw [mod_bit, hb, Nat.add_mul, Nat.mul_assoc, ← Nat.pow_add, Nat.add_comm k, Nat.add_assoc]
theorem pv_zero (ws : List Nat) (i : Nat) : pvN ws i 0 = psN ws i := by unfold pvN; rw [Nat.pow_zero, Nat.mod_one, Nat.zero_mul, Nat.add_zero]
theorem pv_next {ws : List Nat} (h : Tight ws) {i : Nat} (hi : i < 10) : pvN ws i (bitsN i) = pvN ws (i + 1) 0 := by
 rw [pv_zero]
 unfold pvN
 rw [Nat.mod_eq_of_lt (tight_at h hi)]
 rfl
theorem ps_val {ws : List Nat} (h : ws.length = 10) : psN ws 10 = V10 ws := by
 obtain ⟨w0, w1, w2, w3, w4, w5, w6, w7, w8, w9, rfl⟩ := ten h
 have : psN [w0, w1, w2, w3, w4, w5, w6, w7, w8, w9] 10 = 0 + w0 * 1 + w1 * 67108864 + w2 * 2251799813685248 + w3 * 151115727451828646838272 + w4 * 5070602400912917605986812821504 + w5 * 340282366920938463463374607431768211456 + w6 * 11417981541647679048466287755595961091061972992 + w7 * 766247770432944429179173513575154591809369561091801088 + w8 * 25711008708143844408671393477458601640355247900524685364822016 + w9 * 1725436586697640946858688965569256363112777243042596638790631055949824 := rfl
 rw [this]
 simp only [V10]
 omega
theorem below_first {V : Nat} (hV : V < 57896044618658097711785492504343953926634992332820282019728792003956564819968) (h : byteN V 0 < 237) : V < p25519 := by
 have : V / 1 % 256 < 237 := h
 unfold p25519; omega
theorem below_last {V : Nat} (hV : V < 57896044618658097711785492504343953926634992332820282019728792003956564819968) (h : byteN V 31 ≠ 127) : V < p25519 := by
 have : V / 452312848583266388373324160190187140051835877600158453279131187530910662656 % 256 ≠ 127 := h
 unfold p25519; omega
theorem all_ones : ∀ i, i < 31 → 1 ≤ i → 226156424291633194186662080095093570025917938800079226639565593765455331327 / 256 ^ (i - 1) % 256 = 255 := by decide +kernel
theorem high_is {V i : Nat} (h1 : p25519 ≤ V) (h2 : V < 57896044618658097711785492504343953926634992332820282019728792003956564819968) (hi : 1 ≤ i) (hi2 : i < 31) : byteN V i = 255 := by
 have e : V / 256 = 226156424291633194186662080095093570025917938800079226639565593765455331327 := by unfold p25519 at h1; omega
 unfold byteN
 rw [show i = 1 + (i - 1) by omega, Nat.pow_add, ← Nat.div_div_eq_div_mul, show 256 ^ 1 = 256 from rfl, e]
 exact all_ones i hi2 hi
theorem below_mid {V i : Nat} (h2 : V < 57896044618658097711785492504343953926634992332820282019728792003956564819968) (hi : 1 ≤ i) (hi2 : i < 31) (h : byteN V i ≠ 255) : V < p25519 := by
 rcases Nat.lt_or_ge V p25519 with h1 | h1
 ·exact h1
 ·exact absurd (high_is h1 h2 hi hi2) h
theorem div_256 (V i : Nat) : V / 256 ^ i = V / 256 ^ (i + 1) * 256 + byteN V i := by
 unfold byteN
 rw [Nat.pow_succ, ← Nat.div_div_eq_div_mul]
 omega
theorem all_in {V : Nat} (h2 : V < 57896044618658097711785492504343953926634992332820282019728792003956564819968) (h31 : byteN V 31 = 127) (hm : ∀ i, 1 ≤ i → i < 31 → byteN V i = 255) : V / 256 = 226156424291633194186662080095093570025917938800079226639565593765455331327 := by
 have key : ∀ k, k ≤ 30 → V / 256 ^ (31 - k) = 128 * 256 ^ k - 1 := by
  intro k
  induction k with
  | zero =>
   intro _
   have : V / 452312848583266388373324160190187140051835877600158453279131187530910662656 % 256 = 127 := h31
   show V / 452312848583266388373324160190187140051835877600158453279131187530910662656 = 127
   omega
  | succ k ih =>
   intro hk
   have h1 := ih (by omega)
   have h3 := div_256 V (31 - (k + 1))
   rw [show 31 - (k + 1) + 1 = 31 - k by omega, h1, hm _ (by omega) (by omega)] at h3
   rw [h3, Nat.pow_succ]
   have : 0 < 256 ^ k := Nat.pow_pos (by decide)
   omega
 exact key 30 (by omega)
theorem above_all {V : Nat} (h2 : V < 57896044618658097711785492504343953926634992332820282019728792003956564819968) (h0 : 237 ≤ byteN V 0) (h31 : byteN V 31 = 127) (hm : ∀ i, 1 ≤ i → i < 31 → byteN V i = 255) : V % p25519 = byteN V 0 - 237 := by
 have e := all_in h2 h31 hm
 have h3 : byteN V 0 = V % 256 := by unfold byteN; rw [Nat.pow_zero, Nat.div_one]
 rw [h3] at h0 ⊢
 unfold p25519
 omega
theorem zeros_at (x : Nat) : ∀ {i : Nat}, i < 31 → [B1 x, B1 0, B1 0, B1 0, B1 0, B1 0, B1 0, B1 0, B1 0, B1 0, B1 0, B1 0, B1 0, B1 0, B1 0, B1 0, B1 0, B1 0, B1 0, B1 0, B1 0, B1 0, B1 0, B1 0, B1 0, B1 0, B1 0, B1 0, B1 0, B1 0, B1 0, B1 0][i + 1]? = some (B1 0)
 | 0, _ => rfl
 | 1, _ => rfl
 | 2, _ => rfl
 | 3, _ => rfl
 | 4, _ => rfl
 | 5, _ => rfl
 | 6, _ => rfl
 | 7, _ => rfl
 | 8, _ => rfl
 | 9, _ => rfl
 | 10, _ => rfl
 | 11, _ => rfl
 | 12, _ => rfl
 | 13, _ => rfl
 | 14, _ => rfl
 | 15, _ => rfl
 | 16, _ => rfl
 | 17, _ => rfl
 | 18, _ => rfl
 | 19, _ => rfl
 | 20, _ => rfl
 | 21, _ => rfl
 | 22, _ => rfl
 | 23, _ => rfl
 | 24, _ => rfl
 | 25, _ => rfl
 | 26, _ => rfl
 | 27, _ => rfl
 | 28, _ => rfl
 | 29, _ => rfl
 | 30, _ => rfl
 | _ + 31, h => absurd h (by omega)
theorem numL_small {x : Nat} (h : x < 256) : [B1 x, B1 0, B1 0, B1 0, B1 0, B1 0, B1 0, B1 0, B1 0, B1 0, B1 0, B1 0, B1 0, B1 0, B1 0, B1 0, B1 0, B1 0, B1 0, B1 0, B1 0, B1 0, B1 0, B1 0, B1 0, B1 0, B1 0, B1 0, B1 0, B1 0, B1 0, B1 0] = numL x := numL_ext rfl fun i hi => by
 have hx : byteN x 0 = x := by unfold byteN; rw [Nat.pow_zero, Nat.div_one, Nat.mod_eq_of_lt h]
 rcases i with _ | i
 ·rw [hx]; rfl
 ·have hz : byteN x (i + 1) = 0 := by unfold byteN; rw [Nat.pow_succ, Nat.mul_comm, ← Nat.div_div_eq_div_mul, Nat.div_eq_of_lt h, Nat.zero_div]
  rw [hz]
  have hi' : i < 31 := by omega
  clear hi hz hx h
  exact zeros_at x hi'
theorem close_c (us : List Nat) (hgood : Good us) (w : World) :
  Calls Try.prog 74 #[tenV us] w (Ret fun v w' => v = num (V10 us % p25519) ∧ Grow w w') := by
 refine V.calls (args := [_]) Try.func74 rfl Try.ntmps74 rfl rfl ?_
 obtain ⟨hws, hval⟩ := carry4 hgood
 have q0 := hgood.len
 have q1 := good_tight hgood
 have q2 := good_tight q1.good
 have q3 := good_tight q2.good
 have g0 := bd_good (B := 67109120) (by decide) hgood.gd
 have g1 := bd_good (B := 67109120) (by decide) q1.good.gd
 have g2 := bd_good (B := 67109120) (by decide) q2.good.gd
 have g3 := bd_good (B := 67109120) (by decide) q3.good.gd
 have y0 : (wL us).length = 10 := by rw [wL_len, q0]
 generalize hws' : carryL (carryL (carryL (carryL us))) = ws at hws hval
 have y4 : (wL ws).length = 10 := by rw [wL_len, hws.good.len]
 rw [← hval]
 refine T.cutAt 4 (fun e v => ∃ b1 b2 b3, Sub [(4, .int .i64 0), (1, .pointer (some ⟨b1, 0, none⟩)), (2, .pointer (some ⟨b2, 0, none⟩)), (3, .pointer (some ⟨b3, 0, none⟩))] e ∧ Blk v b1 75 (wL ws) ∧ Blk v b2 23 (numL 0) ∧ Blk v b3 23 (numL 0) ∧ w.heap.size ≤ b1 ∧ w.heap.size ≤ b2 ∧ w.heap.size ≤ b3 ∧ b1 ≠ b2 ∧ b1 ≠ b3 ∧ b2 ≠ b3 ∧ Grow w v) ?_ ?_
 rotate_left
 ·repeat (first | refine TL.nil ?_ | refine T.region ?_ | (refine TL.isBox ?_; (refine TL.boxA rfl rfl ?_; intro bk w' hg hbk hsz hsz')) | (refine TL.isAlloc ?_; (refine TL.alloc rfl rfl ?_; intro bk w' hg hbk hsz hsz')) | refine uptoQ_normal ?_ | refine upto_seq ?_ | (refine TL.isLoad ?_; refine TL.loadW rfl yB (by rw [y0]; rfl) rfl ?_))
  rename_i b1 w1 gg1 k1 s1 t1
  obtain ⟨b2, rfl⟩ : ∃ b, b = bk := ⟨_, rfl⟩
  have k2 : Blk w' b2 23 (numL 0) := hbk
  have hne : b1 ≠ b2 := by omega
  have hw1 : w.heap.size ≤ b1 := by omega
  have hw2 : w.heap.size ≤ b2 := by have := gg1.2; omega
  have hb2 : b2 < w'.heap.size := by omega
  clear hbk hsz hsz' s1 t1
  refine TL.call rfl (carry_c _ q0 g0 _) rfl ?_
  rintro _ _ ⟨rfl, ha1⟩
  refine TL.call rfl (carry_c _ q1.good.len g1 _) rfl ?_
  rintro _ _ ⟨rfl, ha2⟩
  refine TL.call rfl (carry_c _ q2.good.len g2 _) rfl ?_
  rintro _ _ ⟨rfl, ha3⟩
  refine TL.call rfl (carry_c _ q3.good.len g3 _) rfl ?_
  rintro _ v4 ⟨rfl, ha4⟩
  rw [hws']
  have hs4 : w'.heap.size ≤ v4.heap.size := by have := ha1.2; have := ha2.2; have := ha3.2; have := ha4.2; omega
  have k2' : Blk v4 b2 23 (numL 0) := by exact yB
  have k1' : Blk v4 b1 75 (wL us) := by exact yB
  have kG : Grow w v4 := by exact yG
  clear k1 k2 gg1 hg ha1 ha2 ha3 ha4
  have l1 := k1'.lt
  repeat (first | (refine TL.isAsg ?_; refine TL.pure rfl rfl ?_) | refine TL.nil ?_ | refine T.region ?_ | (refine TL.isAlloc ?_; (refine TL.alloc rfl rfl ?_; intro bk w' hg hbk hsz hsz')) | refine uptoQ_normal ?_ | refine upto_seq ?_ | refine upto_end ?_ | (refine TL.isStore ?_; refine TL.storeWh rfl rfl yB (by rw [y4]; rfl) (by rw [y0]; rfl) (wL_one _) ?_; intro w' hu hbk hsz))
  have k3 : Blk w' bk 23 (numL 0) := hbk
  clear hbk
  exact ⟨b1, b2, bk, ⟨rfl, rfl, rfl, rfl, trivial⟩, yB, yB, k3, hw1, hw2, by omega, hne, by omega, by omega, yG⟩
 rintro e w1 ⟨b1, b2, b3, hsub, m1, m2, m3, hw1, hw2, hw3, ne12, ne13, ne23, hG⟩
 refine T.weaken (e' := [(4, _), (1, _), (2, _), (3, _)]) ?_ hsub
 clear hsub q0 q1 q2 q3 g0 g1 g2 g3 y0 hws' hval
 have hlt255 := tight_lt hws
 refine T.cutAt 1 (fun e v => Sub [(1, .pointer (some ⟨b1, 0, none⟩)), (2, .pointer (some ⟨b2, 0, none⟩)), (3, .pointer (some ⟨b3, 0, none⟩))] e ∧ Blk v b1 75 (wL ws) ∧ Blk v b2 23 (numL 0) ∧ Blk v b3 23 (numL (V10 ws)) ∧ Grow w v) ?_ ?_
 rotate_left
 ·repeat (first | (refine TL.isAsg ?_; refine TL.pure rfl rfl ?_) | refine TL.nil ?_ | refine thenQ_normal ?_ | refine T.seq ?_ | refine T.region ?_ | refine T.block ?_ | refine upto_seq ?_)
  refine T.loop (S := Nat) (fun i => [(5, .int .i64 (i : Int)), (4, .int .i64 (offN i : Int)), (1, .pointer (some ⟨b1, 0, none⟩)), (2, .pointer (some ⟨b2, 0, none⟩)), (3, .pointer (some ⟨b3, 0, none⟩))])
   (fun i v => i ≤ 10 ∧ Blk v b1 75 (wL ws) ∧ Blk v b2 23 (numL 0) ∧ Blk v b3 23 (numL (pvN ws i 0)) ∧ Grow w v) (fun i => 10 - i) 0 ⟨rfl, rfl, rfl, rfl, rfl, trivial⟩
   ⟨by omega, m1, m2, by rw [pv_zero]; exact m3, hG⟩ ?_
  clear m1 m2 m3 hG w1
  rintro i w1 ⟨hi, m1, m2, m3, hG⟩
  have n1 := m1.lt
  have n2 := m2.lt
  have n3 := m3.lt
  rcases Nat.lt_or_ge i 10 with hlt | hge
  ·have hbl := bitsN_le i
   have hto : offN i + bitsN i ≤ 255 := by
    have : offN (i + 1) ≤ offN 10 := by unfold offN; omega
    rw [offN_succ] at this
    exact this
   have hwi := tight_at hws hlt
   have hwi2 : 2 ^ bitsN i ≤ 2 ^ 26 := Nat.pow_le_pow_right (by decide) (by omega)
   repeat (first | (refine TL.isMove ?_; refine TL.pure rfl rfl ?_) | (refine TL.isAsg ?_; refine TL.pure rfl rfl ?_) | refine TL.nil ?_ | refine thenQ_normal ?_ | refine T.seq ?_ | refine T.region ?_ | refine T.block ?_ | (refine TL.isBin ?_; refine TL.pureT rfl yD rfl ?_) | refine T.cond_true rfl ?_ | refine T.skip ?_)
   refine T.loop (S := Nat) (fun k => [(6, .int .i64 (k : Int)), (5, .int .i64 (i : Int)), (4, .int .i64 (offN i : Int)), (1, .pointer (some ⟨b1, 0, none⟩)), (2, .pointer (some ⟨b2, 0, none⟩)), (3, .pointer (some ⟨b3, 0, none⟩))])
    (fun k v => k ≤ bitsN i ∧ Blk v b1 75 (wL ws) ∧ Blk v b2 23 (numL 0) ∧ Blk v b3 23 (numL (pvN ws i k)) ∧ Grow w v) (fun k => bitsN i - k) 0 ⟨rfl, rfl, rfl, rfl, rfl, rfl, trivial⟩
    ⟨by omega, m1, m2, m3, hG⟩ ?_
   clear m1 m2 m3 hG n1 n2 n3 w1
   rintro k w1 ⟨hk, m1, m2, m3, hG⟩
   have n1 := m1.lt
   have n2 := m2.lt
   have n3 := m3.lt
   have hwl : ws.length = 10 := hws.good.len
   rcases Nat.lt_or_ge k (bitsN i) with hkl | hkl
   ·rcases Nat.mod_two_eq_zero_or_one (gd ws i / 2 ^ k) with hb | hb
    ·have hpb := pv_bit (ws := ws) (i := i) hb
     simp only [Nat.zero_mul, Nat.add_zero] at hpb
     rw [← hpb] at m3
     repeat (first | (refine TL.isMove ?_; refine TL.pure rfl rfl ?_) | (refine TL.isAsg ?_; refine TL.pure rfl rfl ?_) | (refine TL.isIndex ?_; refine TL.indexA1 rfl rfl (by omega) rfl ?_) | (refine TL.isAdd ?_; refine TL.addN rfl rfl (by omega) rfl ?_) | refine TL.nil ?_ | refine thenQ_normal ?_ | refine T.seq ?_ | refine T.region ?_ | refine T.block ?_ | refine blockQ_normal ?_ | (refine TL.isShr ?_; refine TL.shrS rfl rfl (by (simp only [IntKind.bits]; omega)) rfl ?_) | (refine TL.isRem ?_; refine TL.remU rfl rfl (by omega) rfl ?_) | (refine TL.isBin ?_; first | refine TL.pureT rfl yD rfl ?_ | refine TL.pureF rfl yD rfl ?_) | (refine TL.isConv ?_; first | refine TL.convU rfl rfl (by omega) rfl ?_ | refine TL.convN rfl (by omega) rfl ?_) | refine T.cond_true rfl ?_ | refine T.cond_false rfl ?_ | refine T.skip ?_ | (refine TL.isFn 97 ?_; refine TL.call rfl (bits_c i (by omega) _) rfl ?_; rintro _ _ ⟨rfl, rfl⟩) | (refine TL.isLoad ?_; refine TL.load1 rfl (Blk.cell yB (wL_at (by omega))) rfl ?_))
     exact loopQ_normal (k + 1) ⟨rfl, rfl, rfl, rfl, rfl, rfl, trivial⟩ ⟨by omega, yB, yB, yB, yG⟩ (by omega)
    ·have hpb := pv_bit (ws := ws) (i := i) hb
     rw [Nat.one_mul] at hpb
     have hpl := pv_lt hws hlt k
     have hs := put_small hpl
     have h2 := pow8_lt (Nat.mod_lt (offN i + k) (show 0 < 8 by decide))
     have h3 : 1 * 2 ^ ((offN i + k) % 8) < 256 := by omega
     repeat (first | (refine TL.isMove ?_; refine TL.pure rfl rfl ?_) | (refine TL.isIndex ?_; refine TL.indexA1 rfl rfl (by omega) rfl ?_) | (refine TL.isAdd ?_; first | refine TL.addN rfl rfl (by omega) rfl ?_ | refine TL.addU rfl rfl rfl (by omega) rfl ?_) | refine TL.nil ?_ | refine thenQ_normal ?_ | refine T.seq ?_ | refine T.region ?_ | refine T.block ?_ | (refine TL.isShl ?_; refine TL.shlS rfl rfl rfl (by (simp only [IntKind.bits]; omega)) (by omega) rfl ?_) | (refine TL.isShr ?_; refine TL.shrS rfl rfl (by (simp only [IntKind.bits]; omega)) rfl ?_) | (refine TL.isRem ?_; refine TL.remU rfl rfl (by omega) rfl ?_) | (refine TL.isQuo ?_; refine TL.quoN rfl rfl (by omega) (by omega) rfl ?_) | (refine TL.isBin ?_; refine TL.pureT rfl yD rfl ?_) | (refine TL.isConv ?_; first | refine TL.convU rfl rfl (by omega) rfl ?_ | refine TL.convN rfl (by omega) rfl ?_) | refine T.cond_true rfl ?_ | refine T.skip ?_ | (refine TL.isFn 97 ?_; refine TL.call rfl (bits_c i (by omega) _) rfl ?_; rintro _ _ ⟨rfl, rfl⟩) | (refine TL.isLoad ?_; first | refine TL.load1 rfl (Blk.cell yB (wL_at (by omega))) rfl ?_ | refine TL.load1 rfl (Blk.cell yB (numL_at (by omega))) rfl ?_))
     refine TL.storeS rfl rfl yB (by exact rfl) (by rw [numL_len]; omega) ?_
     intro w3 hu3 hbk3 hsz3
     rw [Nat.one_mul, put_bit (by omega) hpl, ← hpb] at hbk3
     repeat (first | (refine TL.isMove ?_; refine TL.pure rfl rfl ?_) | (refine TL.isAsg ?_; refine TL.pure rfl rfl ?_) | (refine TL.isAdd ?_; refine TL.addN rfl rfl (by omega) rfl ?_) | refine TL.nil ?_ | refine thenQ_normal ?_ | refine T.region ?_ | refine blockQ_normal ?_)
     exact loopQ_normal (k + 1) ⟨rfl, rfl, rfl, rfl, rfl, rfl, trivial⟩ ⟨by omega, yB, yB, hbk3, yG⟩ (by omega)
   ·obtain rfl : k = bitsN i := by omega
    rw [pv_next hws hlt] at m3
    repeat (first | (refine TL.isMove ?_; refine TL.pure rfl rfl ?_) | (refine TL.isAsg ?_; refine TL.pure rfl rfl ?_) | (refine TL.isAdd ?_; refine TL.addN rfl rfl (by omega) rfl ?_) | refine TL.nil ?_ | refine thenQ_normal ?_ | refine T.seq ?_ | refine T.region ?_ | refine blockQ_normal ?_ | (refine TL.isBin ?_; refine TL.pureF rfl yD rfl ?_) | (refine TL.isConv ?_; refine TL.convN rfl (by omega) rfl ?_) | refine T.cond_false rfl ?_ | refine T.exit ?_ | refine thenQ_exit ?_ | refine blockQ_hit ?_ | refine loopQ_exit ?_ | (refine TL.isFn 97 ?_; refine TL.call rfl (bits_c i (by omega) _) rfl ?_; rintro _ _ ⟨rfl, rfl⟩))
    exact loopQ_normal (i + 1) ⟨rfl, by rw [offN_succ]; rfl, rfl, rfl, rfl, trivial⟩ ⟨by omega, yB, yB, yB, yG⟩ (by omega)
  ·obtain rfl : i = 10 := by omega
   rw [pv_zero, ps_val hws.good.len] at m3
   repeat (first | (refine TL.isMove ?_; refine TL.pure rfl rfl ?_) | refine TL.nil ?_ | refine thenQ_normal ?_ | refine T.seq ?_ | refine T.region ?_ | (refine TL.isBin ?_; refine TL.pureF rfl yD rfl ?_) | refine T.cond_false rfl ?_ | refine T.exit ?_ | refine thenQ_exit ?_ | refine blockQ_hit ?_ | refine loopQ_exit ?_ | refine uptoQ_normal ?_ | refine upto_end ?_)
   exact ⟨⟨rfl, rfl, rfl, trivial⟩, yB, yB, yB, yG⟩
 clear m1 m2 m3 hG w1
 rintro e w1 ⟨hsub, m1, m2, m3, hG⟩
 refine T.weaken (e' := [(1, _), (2, _), (3, _)]) ?_ hsub
 clear hsub
 generalize V10 ws = V at *
 have n1 := m1.lt
 have n2 := m2.lt
 have n3 := m3.lt
 have e0 : q0 V % 256 = byteN V 0 := by show q0 V % 256 = V / 1 % 256; unfold q0; omega
 have e31 : q3 V / 72057594037927936 % 256 = byteN V 31 := by show q3 V / 72057594037927936 % 256 = V / 452312848583266388373324160190187140051835877600158453279131187530910662656 % 256; unfold q3; omega
 have hb0 := byteN_lt V 0
 rcases Nat.lt_or_ge (byteN V 0) 237 with h0 | h0
 ·have hV := below_first hlt255 h0
  rw [Nat.mod_eq_of_lt hV]
  repeat (first | refine TL.guard_skip rfl rfl rfl ?_ | (refine TL.isMove ?_; refine TL.pure rfl rfl ?_) | (refine TL.isLoad ?_; first | refine TL.load1 rfl yM rfl ?_ | refine TL.loadW rfl yB (by exact rfl) rfl ?_) | (refine TL.isIndex ?_; refine TL.indexA1 rfl rfl (by omega) rfl ?_) | refine TL.nil ?_ | refine thenQ_normal ?_ | refine T.seq ?_ | refine T.region ?_ | (refine TL.isBin ?_; refine TL.pureT rfl yD rfl ?_) | (refine TL.isStore ?_; (refine TL.storeWh rfl rfl yB (by exact rfl) (by exact rfl) (by exact rfl) ?_; intro w' hu hbk hsz)) | refine T.cond_true rfl ?_ | refine T.ret ?_ | refine thenQ_ret ?_ | refine TL.pure rfl rfl ?_)
  exact retC rfl (load_whole (by assumption) rfl) ⟨_, rfl, rfl, yG⟩
 by_cases h31 : byteN V 31 = 127
 rotate_left
 ·have hV := below_last hlt255 h31
  rw [Nat.mod_eq_of_lt hV]
  repeat (first | refine TL.guard_run rfl rfl rfl ?_ | (refine TL.isMove ?_; refine TL.pure rfl rfl ?_) | (refine TL.isLoad ?_; first | refine TL.load1 rfl yM rfl ?_ | refine TL.loadW rfl yB (by exact rfl) rfl ?_) | (refine TL.isIndex ?_; refine TL.indexA1 rfl rfl (by omega) rfl ?_) | refine TL.nil ?_ | refine thenQ_normal ?_ | refine T.seq ?_ | refine T.region ?_ | (refine TL.isBin ?_; first | refine TL.pureT rfl yD rfl ?_ | refine TL.pureF rfl yD rfl ?_) | (refine TL.isStore ?_; (refine TL.storeWh rfl rfl yB (by exact rfl) (by exact rfl) (by exact rfl) ?_; intro w' hu hbk hsz)) | refine T.cond_true rfl ?_ | refine T.ret ?_ | refine thenQ_ret ?_ | refine TL.pure rfl rfl ?_)
  exact retC rfl (load_whole (by assumption) rfl) ⟨_, rfl, rfl, yG⟩
 repeat (first | refine TL.guard_run rfl rfl rfl ?_ | (refine TL.isMove ?_; refine TL.pure rfl rfl ?_) | (refine TL.isAsg ?_; refine TL.pure rfl rfl ?_) | refine TL.load1 rfl yM rfl ?_ | (refine TL.isIndex ?_; refine TL.indexA1 rfl rfl (by omega) rfl ?_) | refine TL.nil ?_ | refine thenQ_normal ?_ | refine T.seq ?_ | refine T.region ?_ | refine T.block ?_ | (refine TL.isBin ?_; refine TL.pureF rfl yD rfl ?_) | refine T.cond_false rfl ?_ | refine T.skip ?_ | refine TL.pure rfl rfl ?_)
 refine T.loop (S := Nat) (fun i => [(7, .int .i64 (i : Int)), (1, .pointer (some ⟨b1, 0, none⟩)), (2, .pointer (some ⟨b2, 0, none⟩)), (3, .pointer (some ⟨b3, 0, none⟩))])
  (fun i v => (1 ≤ i ∧ i ≤ 31 ∧ ∀ j, 1 ≤ j → j < i → byteN V j = 255) ∧ Blk v b1 75 (wL ws) ∧ Blk v b2 23 (numL 0) ∧ Blk v b3 23 (numL V) ∧ Grow w v) (fun i => 31 - i) 1 ⟨rfl, rfl, rfl, rfl, trivial⟩
  ⟨⟨by omega, by omega, fun j h1 h2 => by omega⟩, m1, m2, m3, hG⟩ ?_
 clear m1 m2 m3 hG n1 n2 n3 w1
 rintro i w1 ⟨⟨hi1, hi2, hall⟩, m1, m2, m3, hG⟩
 have n1 := m1.lt
 have n2 := m2.lt
 have n3 := m3.lt
 rcases Nat.lt_or_ge i 31 with hlt | hge
 ·by_cases hb : byteN V i = 255
  ·repeat (first | (refine TL.isMove ?_; refine TL.pure rfl rfl ?_) | (refine TL.isAsg ?_; refine TL.pure rfl rfl ?_) | (refine TL.isIndex ?_; refine TL.indexA1 rfl rfl (by omega) rfl ?_) | (refine TL.isAdd ?_; refine TL.addN rfl rfl (by omega) rfl ?_) | refine TL.nil ?_ | refine thenQ_normal ?_ | refine T.seq ?_ | refine T.region ?_ | refine T.block ?_ | refine blockQ_normal ?_ | (refine TL.isBin ?_; first | refine TL.pureT rfl yD rfl ?_ | refine TL.pureF rfl yD rfl ?_) | refine T.cond_true rfl ?_ | refine T.cond_false rfl ?_ | refine T.skip ?_ | (refine TL.isLoad ?_; refine TL.load1 rfl (Blk.cell yB (numL_at (by omega))) rfl ?_))
   exact loopQ_normal (i + 1) ⟨rfl, rfl, rfl, rfl, trivial⟩ ⟨⟨by omega, by omega, fun j h1 h2 => by
    by_cases hj : j = i
    ·rw [hj]; exact hb
    ·exact hall j h1 (by omega)⟩, yB, yB, yB, yG⟩ (by omega)
  ·have hV := below_mid hlt255 hi1 hlt hb
   rw [Nat.mod_eq_of_lt hV]
   repeat (first | (refine TL.isMove ?_; refine TL.pure rfl rfl ?_) | (refine TL.isLoad ?_; refine TL.loadW rfl yB (by exact rfl) rfl ?_) | (refine TL.isIndex ?_; refine TL.indexA1 rfl rfl (by omega) rfl ?_) | refine TL.nil ?_ | refine thenQ_normal ?_ | refine T.seq ?_ | refine T.region ?_ | refine T.block ?_ | (refine TL.isBin ?_; refine TL.pureT rfl yD rfl ?_) | (refine TL.isStore ?_; (refine TL.storeWh rfl rfl yB (by exact rfl) (by exact rfl) (by exact rfl) ?_; intro w' hu hbk hsz)) | refine T.cond_true rfl ?_ | refine T.ret ?_ | refine T.skip ?_ | refine thenQ_ret ?_ | refine blockQ_ret ?_ | refine loopQ_ret ?_ | (refine TL.isLoad ?_; refine TL.load1 rfl (Blk.cell yB (numL_at (by omega))) rfl ?_))
   exact retC rfl (load_whole (by assumption) rfl) ⟨_, rfl, rfl, yG⟩
 ·obtain rfl : i = 31 := by omega
  have hm := above_all hlt255 h0 h31 hall
  rw [hm, ← e0]
  rw [← e0] at h0 hb0
  repeat (first | (refine TL.isMove ?_; refine TL.pure rfl rfl ?_) | refine TL.load1 rfl yM rfl ?_ | (refine TL.isIndex ?_; refine TL.indexA1 rfl rfl (by omega) rfl ?_) | (refine TL.isSub ?_; refine TL.subU rfl rfl rfl (by omega) (by omega) rfl ?_) | refine TL.nil ?_ | refine thenQ_normal ?_ | refine T.seq ?_ | refine T.region ?_ | (refine TL.isBin ?_; refine TL.pureF rfl yD rfl ?_) | (refine TL.isStore ?_; (refine TL.storeWh rfl rfl yB (by exact rfl) (by exact rfl) (by exact rfl) ?_; intro w' hu hbk hsz)) | refine TL.buildArr rfl rfl rfl ?_ | refine T.cond_false rfl ?_ | refine T.ret ?_ | refine T.exit ?_ | refine thenQ_exit ?_ | refine blockQ_hit ?_ | refine loopQ_exit ?_)
  exact retC rfl (load_whole (by assumption) rfl) ⟨_, rfl, congrArg (fun l : List Value => Value.agg l.toArray) (numL_small (by omega)), yG⟩
end Go.Proofs.Ytmpjigghgedjbaa
namespace Go.Proofs.Ytmpjigghgedjbaa
open Go Go.V
def Rep (ws : List Nat) (A : Nat) : Prop := Good ws ∧ V10 ws % p25519 = A % p25519
def updL (xs zs : List Nat) (i : Nat) : List Nat := (List.range 10).map fun j => if j < i then gd zs j else gd xs j
theorem updL_len (xs zs : List Nat) (i : Nat) : (updL xs zs i).length = 10 := by unfold updL; simp
theorem updL_gd (xs zs : List Nat) (i : Nat) {j : Nat} (hj : j < 10) : gd (updL xs zs i) j = if j < i then gd zs j else gd xs j := by
 unfold gd updL
 rw [List.getD_eq_getElem?_getD, List.getElem?_map, List.getElem?_range hj]
 rfl
theorem updL_0 {xs zs : List Nat} (h : xs.length = 10) : updL xs zs 0 = xs := ten_ext (updL_len _ _ _) h fun j hj => by rw [updL_gd _ _ _ hj, if_neg (by omega)]
theorem updL_10 {xs zs : List Nat} (h : zs.length = 10) : updL xs zs 10 = zs := ten_ext (updL_len _ _ _) h fun j hj => by rw [updL_gd _ _ _ hj, if_pos hj]
theorem updL_at (xs zs : List Nat) {i : Nat} (hi : i < 10) : gd (updL xs zs i) i = gd xs i := by rw [updL_gd _ _ _ hi, if_neg (by omega)]
theorem updL_set (xs zs : List Nat) {i : Nat} (hi : i < 10) : (updL xs zs i).set i (gd zs i) = updL xs zs (i + 1) := by
 refine ten_ext (by simp [updL_len]) (updL_len _ _ _) fun j hj => ?_
 rw [gd_set (by rw [updL_len]; exact hi), updL_gd _ _ _ hj, updL_gd _ _ _ hj]
 by_cases h : j = i
 ·subst h; rw [if_pos rfl, if_pos (by omega)]
 ·rw [if_neg h]
  by_cases h2 : j < i
  ·rw [if_pos h2, if_pos (by omega)]
  ·rw [if_neg h2, if_neg (by omega)]
def mapL (f : Nat → Nat) : List Nat := (List.range 10).map f
theorem mapL_len (f : Nat → Nat) : (mapL f).length = 10 := by unfold mapL; simp
theorem mapL_gd (f : Nat → Nat) {j : Nat} (hj : j < 10) : gd (mapL f) j = f j := by
 unfold gd mapL
 rw [List.getD_eq_getElem?_getD, List.getElem?_map, List.getElem?_range hj]
 rfl
theorem gd_ge {ws : List Nat} {i : Nat} (h : ws.length ≤ i) : gd ws i = 0 := by
 unfold gd; rw [List.getD_eq_getElem?_getD, List.getElem?_eq_none h]; rfl
def addW (xs ys : List Nat) : List Nat := mapL fun j => gd xs j + gd ys j
def pj (j : Nat) : Nat := if j = 0 then 67108845 else 2 ^ bitsN j - 1
def subW (xs ys : List Nat) : List Nat := mapL fun j => gd xs j + 4 * pj j - gd ys j
def plusW (xs ys : List Nat) : List Nat := carryL (addW xs ys)
def minusW (xs ys : List Nat) : List Nat := carryL (subW xs ys)
theorem addW_lt {xs ys : List Nat} (hx : Good xs) (hy : Good ys) (i : Nat) : gd (addW xs ys) i < 268435456 := by
 rcases Nat.lt_or_ge i 10 with hi | hi
 ·unfold addW; rw [mapL_gd _ hi]
  have := hx.gd i; have := hy.gd i; omega
 ·rw [gd_ge (by unfold addW; rw [mapL_len]; exact hi)]; decide
theorem pj_le (j : Nat) : pj j ≤ 67108863 ∧ 33554431 ≤ pj j := by
 unfold pj
 split
 ·omega
 ·rcases pow_bits j with h | h <;> rw [h] <;> omega
theorem sub_ok {ys : List Nat} (hy : Good ys) (j : Nat) : gd ys j ≤ 4 * pj j := by have := hy.gd j; have := pj_le j; omega
theorem subW_lt {xs ys : List Nat} (hx : Good xs) (hy : Good ys) (i : Nat) : gd (subW xs ys) i < 402653184 := by
 rcases Nat.lt_or_ge i 10 with hi | hi
 ·unfold subW; rw [mapL_gd _ hi]
  have := hx.gd i; have := hy.gd i; have := pj_le i; omega
 ·rw [gd_ge (by unfold subW; rw [mapL_len]; exact hi)]; decide
theorem addW_val {xs ys : List Nat} (hx : xs.length = 10) (hy : ys.length = 10) : V10 (addW xs ys) = V10 xs + V10 ys := by
 obtain ⟨x0, x1, x2, x3, x4, x5, x6, x7, x8, x9, rfl⟩ := ten hx
 obtain ⟨y0, y1, y2, y3, y4, y5, y6, y7, y8, y9, rfl⟩ := ten hy
 have : addW [x0, x1, x2, x3, x4, x5, x6, x7, x8, x9] [y0, y1, y2, y3, y4, y5, y6, y7, y8, y9] = [x0 + y0, x1 + y1, x2 + y2, x3 + y3, x4 + y4, x5 + y5, x6 + y6, x7 + y7, x8 + y8, x9 + y9] := rfl
 rw [this]; simp only [V10]; omega
theorem subW_val {xs ys : List Nat} (hx : Good xs) (hy : Good ys) : V10 (subW xs ys) + V10 ys = V10 xs + p25519 * 4 := by
 have l := hx.len
 have m := hy.len
 obtain ⟨x0, x1, x2, x3, x4, x5, x6, x7, x8, x9, rfl⟩ := ten l
 obtain ⟨y0, y1, y2, y3, y4, y5, y6, y7, y8, y9, rfl⟩ := ten m
 have : subW [x0, x1, x2, x3, x4, x5, x6, x7, x8, x9] [y0, y1, y2, y3, y4, y5, y6, y7, y8, y9] = [x0 + 268435380 - y0, x1 + 134217724 - y1, x2 + 268435452 - y2, x3 + 134217724 - y3, x4 + 268435452 - y4, x5 + 134217724 - y5, x6 + 268435452 - y6, x7 + 134217724 - y7, x8 + 268435452 - y8, x9 + 134217724 - y9] := rfl
 rw [this]; simp only [V10]; unfold p25519
 unfold Good at hy
 obtain ⟨h0, h1, h2, h3, h4, h5, h6, h7, h8, h9⟩ := hy
 clear l m hx this
 have k : ∀ {x c y : Nat}, y < c → ∃ z, x + c - y = z ∧ z + y = x + c := fun h => ⟨_, rfl, by omega⟩
 obtain ⟨z0, e0, f0⟩ := k (x := x0) (c := 268435380) (y := y0) (by omega)
 obtain ⟨z1, e1, f1⟩ := k (x := x1) (c := 134217724) (y := y1) (by omega)
 obtain ⟨z2, e2, f2⟩ := k (x := x2) (c := 268435452) (y := y2) (by omega)
 obtain ⟨z3, e3, f3⟩ := k (x := x3) (c := 134217724) (y := y3) (by omega)
 obtain ⟨z4, e4, f4⟩ := k (x := x4) (c := 268435452) (y := y4) (by omega)
 obtain ⟨z5, e5, f5⟩ := k (x := x5) (c := 134217724) (y := y5) (by omega)
 obtain ⟨z6, e6, f6⟩ := k (x := x6) (c := 268435452) (y := y6) (by omega)
 obtain ⟨z7, e7, f7⟩ := k (x := x7) (c := 134217724) (y := y7) (by omega)
 obtain ⟨z8, e8, f8⟩ := k (x := x8) (c := 268435452) (y := y8) (by omega)
 obtain ⟨z9, e9, f9⟩ := k (x := x9) (c := 134217724) (y := y9) (by omega)
 rw [e0, e1, e2, e3, e4, e5, e6, e7, e8, e9]
 clear e0 e1 e2 e3 e4 e5 e6 e7 e8 e9 h0 h1 h2 h3 h4 h5 h6 h7 h8 h9 k
 omega
theorem carry_good3 {ws : List Nat} (h : ws.length = 10) (hb : ∀ i, gd ws i < 402653184) : Good (carryL ws) := by
 obtain ⟨w0, w1, w2, w3, w4, w5, w6, w7, w8, w9, rfl⟩ := ten h
 obtain ⟨c0, c1, c2, c3, c4, c5, c6, c7, c8, c9, r0, r1, r2, r3, r4, r5, r6, r7, r8, r9, e, ⟨e0, e1, e2, e3, e4, e5, e6, e7, e8, e9⟩, l0, l1, l2, l3, l4, l5, l6, l7, l8, l9⟩ := carry_spec w0 w1 w2 w3 w4 w5 w6 w7 w8 w9
 rw [e]
 have b0 : w0 < 402653184 := hb 0
 have b1 : w1 < 402653184 := hb 1
 have b2 : w2 < 402653184 := hb 2
 have b3 : w3 < 402653184 := hb 3
 have b4 : w4 < 402653184 := hb 4
 have b5 : w5 < 402653184 := hb 5
 have b6 : w6 < 402653184 := hb 6
 have b7 : w7 < 402653184 := hb 7
 have b8 : w8 < 402653184 := hb 8
 have b9 : w9 < 402653184 := hb 9
 have k0 : c0 ≤ 12 := kb (c := 0) (B := 402653184) e0 b0 (by decide) (by decide)
 have k1 : c1 ≤ 12 := kb e1 b1 k0 (by decide)
 have k2 : c2 ≤ 12 := kb e2 b2 k1 (by decide)
 have k3 : c3 ≤ 12 := kb e3 b3 k2 (by decide)
 have k4 : c4 ≤ 12 := kb e4 b4 k3 (by decide)
 have k5 : c5 ≤ 12 := kb e5 b5 k4 (by decide)
 have k6 : c6 ≤ 12 := kb e6 b6 k5 (by decide)
 have k7 : c7 ≤ 12 := kb e7 b7 k6 (by decide)
 have k8 : c8 ≤ 12 := kb e8 b8 k7 (by decide)
 have k9 : c9 ≤ 12 := kb e9 b9 k8 (by decide)
 clear e0 e1 e2 e3 e4 e5 e6 e7 e8 e9
 unfold Good
 refine ⟨by omega, l1, l2, l3, l4, l5, l6, l7, l8, l9⟩
theorem rep_plus {xs ys : List Nat} {A B : Nat} (hx : Rep xs A) (hy : Rep ys B) : Rep (plusW xs ys) (A + B) := by
 refine ⟨carry_good (mapL_len _) (addW_lt hx.1 hy.1), ?_⟩
 unfold plusW
 rw [carry_val (show (addW xs ys).length = 10 from mapL_len _), addW_val hx.1.len hy.1.len, Nat.add_mod, hx.2, hy.2, ← Nat.add_mod]
theorem rep_minus {xs ys : List Nat} {A B : Nat} (hx : Rep xs A) (hy : Rep ys B) : Rep (minusW xs ys) (A + (p25519 - B % p25519)) := by
 refine ⟨carry_good3 (mapL_len _) (subW_lt hx.1 hy.1), ?_⟩
 unfold minusW
 rw [carry_val (show (subW xs ys).length = 10 from mapL_len _)]
 have h := subW_val hx.1 hy.1
 have h1 := hx.2
 have h2 := hy.2
 generalize V10 (subW xs ys) = Z at *
 generalize V10 xs = X at *
 generalize V10 ys = Y at *
 have hB : B % p25519 < p25519 := Nat.mod_lt _ (by decide)
 have h3 : (Z + Y) % p25519 = X % p25519 := by rw [h, Nat.add_mul_mod_self_left]
 unfold p25519 at *
 omega
theorem rep_open {N : Nat} (hN : N < 115792089237316195423570985008687907853269984665640564039457584007913129639936) : Rep (carryL (opL N 10 0)) N :=
 ⟨opL_good N, by rw [carry_val (opL_len _ _ _), opL_val hN]⟩
def termW (xs ys : List Nat) (i k : Nat) : Nat :=
 let p := gd xs i * gd ys k
 let q := if i % 2 = 1 ∧ k % 2 = 1 then 2 * p else p
 if 9 < i + k then 19 * q else q
def rowW (xs ys : List Nat) (i : Nat) : Nat → List Nat → List Nat
 | 0, out => out
 | k + 1, out => (rowW xs ys i k out).set ((i + k) % 10) (gd (rowW xs ys i k out) ((i + k) % 10) + termW xs ys i k)
def allW (xs ys : List Nat) : Nat → List Nat
 | 0 => [0, 0, 0, 0, 0, 0, 0, 0, 0, 0]
 | i + 1 => rowW xs ys i 10 (allW xs ys i)
def timesW (xs ys : List Nat) : List Nat := carryL (carryL (allW xs ys 10))
theorem rowW_len (xs ys : List Nat) (i : Nat) {out : List Nat} (h : out.length = 10) : ∀ k, (rowW xs ys i k out).length = 10
 | 0 => h
 | k + 1 => by unfold rowW; rw [List.length_set]; exact rowW_len xs ys i h k
theorem allW_len (xs ys : List Nat) : ∀ i, (allW xs ys i).length = 10
 | 0 => rfl
 | i + 1 => rowW_len xs ys i (allW_len xs ys i) 10
theorem termW_le {xs ys : List Nat} (hx : Good xs) (hy : Good ys) (i k : Nat) : termW xs ys i k ≤ 171138287554625318 := by
 have h1 := hx.gd i
 have h2 := hy.gd k
 have h3 : gd xs i * gd ys k ≤ 67109119 * 67109119 := Nat.mul_le_mul (by omega) (by omega)
 unfold termW
 simp only
 split <;> split <;> omega
theorem rowW_le {xs ys : List Nat} (hx : Good xs) (hy : Good ys) {i : Nat} (hi : i < 10) {out : List Nat} (hl : out.length = 10) {M : Nat} (h : ∀ j, gd out j ≤ M) :
  ∀ k, k ≤ 10 → (∀ j, gd (rowW xs ys i k out) j ≤ M + 171138287554625318) ∧ ∀ k', k ≤ k' → k' < 10 → gd (rowW xs ys i k out) ((i + k') % 10) ≤ M
 | 0, _ => ⟨fun j => Nat.le_trans (h j) (Nat.le_add_right _ _), fun k' _ _ => h _⟩
 | k + 1, hk => by
  obtain ⟨h1, h2⟩ := rowW_le hx hy hi hl h k (by omega)
  have hlen := rowW_len xs ys i hl k
  have ht := termW_le hx hy i k
  have h3 := h2 k (Nat.le_refl _) (by omega)
  unfold rowW
  refine ⟨fun j => ?_, fun k' hk' hk2 => ?_⟩
  ·rw [gd_set (by omega)]
   split
   ·omega
   ·exact h1 j
  ·rw [gd_set (by omega), if_neg (by omega)]
   exact h2 k' (by omega) hk2
theorem allW_le {xs ys : List Nat} (hx : Good xs) (hy : Good ys) : ∀ i, i ≤ 10 → ∀ j, gd (allW xs ys i) j ≤ i * 171138287554625318
 | 0, _, j => by
  rcases Nat.lt_or_ge j 10 with hj | hj
  ·obtain rfl | rfl | rfl | rfl | rfl | rfl | rfl | rfl | rfl | rfl : j = 0 ∨ j = 1 ∨ j = 2 ∨ j = 3 ∨ j = 4 ∨ j = 5 ∨ j = 6 ∨ j = 7 ∨ j = 8 ∨ j = 9 := by omega
   all_goals exact Nat.zero_le _
  ·rw [gd_ge (by exact hj)]; exact Nat.zero_le _
 | i + 1, hi, j => by
  unfold allW
  have := (rowW_le hx hy (show i < 10 by omega) (allW_len xs ys i) (allW_le hx hy i (by omega)) 10 (Nat.le_refl _)).1 j
  omega
theorem allW_lt {xs ys : List Nat} (hx : Good xs) (hy : Good ys) (j : Nat) : gd (allW xs ys 10) j < 2305843009213693952 := by
 have := allW_le hx hy 10 (Nat.le_refl _) j
 omega
theorem times_good {xs ys : List Nat} (hx : Good xs) (hy : Good ys) : Good (timesW xs ys) := (carry2_good (allW_len _ _ _) (allW_lt hx hy)).2
theorem times_val {xs ys : List Nat} (hx : xs.length = 10) (hy : ys.length = 10) : V10 (timesW xs ys) % p25519 = V10 (allW xs ys 10) % p25519 := by
 unfold timesW
 rw [carry_val (carry_len (allW_len _ _ _)), carry_val (allW_len _ _ _)]
theorem V10_add {l : List Nat} (hl : l.length = 10) {j : Nat} (hj : j < 10) (t : Nat) : V10 (l.set j (gd l j + t)) = V10 l + t * 2 ^ offN j := by
 obtain ⟨l0, l1, l2, l3, l4, l5, l6, l7, l8, l9, rfl⟩ := ten hl
 obtain rfl | rfl | rfl | rfl | rfl | rfl | rfl | rfl | rfl | rfl : j = 0 ∨ j = 1 ∨ j = 2 ∨ j = 3 ∨ j = 4 ∨ j = 5 ∨ j = 6 ∨ j = 7 ∨ j = 8 ∨ j = 9 := by omega
 ·have e : V10 [l0 + t, l1, l2, l3, l4, l5, l6, l7, l8, l9] = V10 [l0, l1, l2, l3, l4, l5, l6, l7, l8, l9] + t * 1 := by simp only [V10]; omega
  exact e
 ·have e : V10 [l0, l1 + t, l2, l3, l4, l5, l6, l7, l8, l9] = V10 [l0, l1, l2, l3, l4, l5, l6, l7, l8, l9] + t * 67108864 := by simp only [V10]; omega
  exact e
 ·have e : V10 [l0, l1, l2 + t, l3, l4, l5, l6, l7, l8, l9] = V10 [l0, l1, l2, l3, l4, l5, l6, l7, l8, l9] + t * 2251799813685248 := by simp only [V10]; omega
  exact e
 ·have e : V10 [l0, l1, l2, l3 + t, l4, l5, l6, l7, l8, l9] = V10 [l0, l1, l2, l3, l4, l5, l6, l7, l8, l9] + t * 151115727451828646838272 := by simp only [V10]; omega
  exact e
 ·have e : V10 [l0, l1, l2, l3, l4 + t, l5, l6, l7, l8, l9] = V10 [l0, l1, l2, l3, l4, l5, l6, l7, l8, l9] + t * 5070602400912917605986812821504 := by simp only [V10]; omega
  exact e
 ·have e : V10 [l0, l1, l2, l3, l4, l5 + t, l6, l7, l8, l9] = V10 [l0, l1, l2, l3, l4, l5, l6, l7, l8, l9] + t * 340282366920938463463374607431768211456 := by simp only [V10]; omega
  exact e
 ·have e : V10 [l0, l1, l2, l3, l4, l5, l6 + t, l7, l8, l9] = V10 [l0, l1, l2, l3, l4, l5, l6, l7, l8, l9] + t * 11417981541647679048466287755595961091061972992 := by simp only [V10]; omega
  exact e
 ·have e : V10 [l0, l1, l2, l3, l4, l5, l6, l7 + t, l8, l9] = V10 [l0, l1, l2, l3, l4, l5, l6, l7, l8, l9] + t * 766247770432944429179173513575154591809369561091801088 := by simp only [V10]; omega
  exact e
 ·have e : V10 [l0, l1, l2, l3, l4, l5, l6, l7, l8 + t, l9] = V10 [l0, l1, l2, l3, l4, l5, l6, l7, l8, l9] + t * 25711008708143844408671393477458601640355247900524685364822016 := by simp only [V10]; omega
  exact e
 ·have e : V10 [l0, l1, l2, l3, l4, l5, l6, l7, l8, l9 + t] = V10 [l0, l1, l2, l3, l4, l5, l6, l7, l8, l9] + t * 1725436586697640946858688965569256363112777243042596638790631055949824 := by simp only [V10]; omega
  exact e
theorem high_mod (Z : Nat) : 19 * Z % p25519 = 57896044618658097711785492504343953926634992332820282019728792003956564819968 * Z % p25519 := by
 have : 57896044618658097711785492504343953926634992332820282019728792003956564819968 * Z = 19 * Z + p25519 * Z := by unfold p25519; omega
 rw [this, Nat.add_mul_mod_self_left]
theorem term_val (xs ys : List Nat) {i k : Nat} (hi : i < 10) (hk : k < 10) : termW xs ys i k * 2 ^ offN ((i + k) % 10) % p25519 = gd xs i * 2 ^ offN i * (gd ys k * 2 ^ offN k) % p25519 := by
 have e1 : gd xs i * 2 ^ offN i * (gd ys k * 2 ^ offN k) = (if i % 2 = 1 ∧ k % 2 = 1 then 2 * (gd xs i * gd ys k) else gd xs i * gd ys k) * 2 ^ offN (i + k) := by
  have e2 : gd xs i * 2 ^ offN i * (gd ys k * 2 ^ offN k) = gd xs i * gd ys k * 2 ^ (offN i + offN k) := by rw [Nat.pow_add]; grind
  rw [e2]
  split
  ·rename_i h
   have : offN i + offN k = offN (i + k) + 1 := by unfold offN; omega
   rw [this, Nat.pow_succ]; grind
  ·rename_i h
   have : offN i + offN k = offN (i + k) := by unfold offN; omega
   rw [this]
 rw [e1]
 unfold termW
 simp only
 generalize (if i % 2 = 1 ∧ k % 2 = 1 then 2 * (gd xs i * gd ys k) else gd xs i * gd ys k) = q
 split
 ·rename_i h
  have h2 : offN (i + k) = 255 + offN ((i + k) % 10) := by unfold offN; omega
  rw [h2, Nat.pow_add, Nat.mul_assoc, high_mod]
  congr 1
  rw [show (57896044618658097711785492504343953926634992332820282019728792003956564819968 : Nat) = 2 ^ 255 from by decide]
  grind
 ·rename_i h
  rw [Nat.mod_eq_of_lt (show i + k < 10 by omega)]
theorem add_modc {a b c d p : Nat} (h1 : a % p = b % p) (h2 : c % p = d % p) : (a + c) % p = (b + d) % p := by rw [Nat.add_mod, h1, h2, ← Nat.add_mod]
theorem rowW_val (xs ys : List Nat) {i : Nat} (hi : i < 10) {out : List Nat} (hl : out.length = 10) : ∀ k, k ≤ 10 → V10 (rowW xs ys i k out) % p25519 = (V10 out + gd xs i * 2 ^ offN i * psN ys k) % p25519
 | 0, _ => by unfold rowW psN; rw [Nat.mul_zero, Nat.add_zero]
 | k + 1, hk => by
  unfold rowW psN
  rw [V10_add (rowW_len xs ys i hl k) (Nat.mod_lt _ (by decide)), Nat.mul_add, ← Nat.add_assoc]
  exact add_modc (rowW_val xs ys hi hl k (by omega)) (term_val xs ys hi (by omega))
theorem allW_val' (xs ys : List Nat) : ∀ i, i ≤ 10 → V10 (allW xs ys i) % p25519 = psN xs i * psN ys 10 % p25519
 | 0, _ => by unfold allW psN; rw [Nat.zero_mul]; rfl
 | i + 1, hi => by
  unfold allW
  rw [rowW_val xs ys (by omega) (allW_len xs ys i) 10 (Nat.le_refl _)]
  show _ = (psN xs i + gd xs i * 2 ^ offN i) * psN ys 10 % p25519
  rw [Nat.add_mul]
  exact add_modc (allW_val' xs ys i (by omega)) rfl
theorem rep_times {xs ys : List Nat} {A B : Nat} (hx : Rep xs A) (hy : Rep ys B) : Rep (timesW xs ys) (A * B) := by
 refine ⟨times_good hx.1 hy.1, ?_⟩
 rw [times_val hx.1.len hy.1.len, allW_val' _ _ 10 (Nat.le_refl _), ps_val hx.1.len, ps_val hy.1.len, Nat.mul_mod, hx.2, hy.2, ← Nat.mul_mod]
theorem addW_len (xs ys : List Nat) : (addW xs ys).length = 10 := mapL_len _
theorem subW_len (xs ys : List Nat) : (subW xs ys).length = 10 := mapL_len _
theorem addW_gd (xs ys : List Nat) {i : Nat} (h : i < 10) : gd (addW xs ys) i = gd xs i + gd ys i := mapL_gd _ h
theorem subW_gd (xs ys : List Nat) {i : Nat} (h : i < 10) : gd (subW xs ys) i = gd xs i + 4 * pj i - gd ys i := mapL_gd _ h
attribute [irreducible] termW rowW allW timesW addW subW plusW minusW updL mapL
end Go.Proofs.Ytmpjigghgedjbaa
namespace Go.Proofs.Ytmpjigghgedjbaa
open Go Go.N
def IRep (ws : List Nat) (z : Int) : Prop := ∃ n : Nat, Rep ws n ∧ Z ((n : Int) - z)
theorem IRep.good {ws : List Nat} {z : Int} (h : IRep ws z) : Good ws := let ⟨n, h, _⟩ := h; h.1
theorem irep_times {xs ys : List Nat} {a b : Int} (hx : IRep xs a) (hy : IRep ys b) : IRep (timesW xs ys) (a * b) := by
 obtain ⟨n, h1, h2⟩ := hx
 obtain ⟨m, k1, k2⟩ := hy
 refine ⟨n * m, rep_times h1 k1, ?_⟩
 rw [Int.natCast_mul]
 exact ((h2.mul (m : Int)).add (k2.mul a)).eq (by grind)
theorem irep_plus {xs ys : List Nat} {a b : Int} (hx : IRep xs a) (hy : IRep ys b) : IRep (plusW xs ys) (a + b) := by
 obtain ⟨n, h1, h2⟩ := hx
 obtain ⟨m, k1, k2⟩ := hy
 refine ⟨n + m, rep_plus h1 k1, ?_⟩
 rw [Int.natCast_add]
 exact (h2.add k2).eq (by omega)
theorem irep_minus {xs ys : List Nat} {a b : Int} (hx : IRep xs a) (hy : IRep ys b) : IRep (minusW xs ys) (a - b) := by
 obtain ⟨n, h1, h2⟩ := hx
 obtain ⟨m, k1, k2⟩ := hy
 refine ⟨_, rep_minus h1 k1, ?_⟩
 have h3 : Z (((n + (p25519 - m % p25519) : Nat) : Int) - ((n : Int) - m)) := by unfold Z p25519; omega
 exact ((h3.add h2).sub k2).eq (by omega)
theorem irep_nat {ws : List Nat} {n : Nat} (h : Rep ws n) : IRep ws n := ⟨n, h, Z.zero.eq (by omega)⟩
def Proj (a b c : Int) (P : Pt) : Prop := ¬ Z c ∧ Z (a - P.1 * c) ∧ Z (b - P.2 * c)
def PF (xs ys zs : List Nat) (P : Pt) : Prop := ∃ a b c : Int, IRep xs a ∧ IRep ys b ∧ IRep zs c ∧ Proj a b c P
theorem proj_plus {a b c u v w : Int} {P Q : Pt} (hP : Val P) (hQ : Val Q) (h : Proj a b c P) (k : Proj u v w Q) :
  Proj (c * w * ((c * w * (c * w) - dI * (a * u * (b * v))) * ((a + b) * (u + v) - (a * u + b * v)))) (c * w * ((c * w * (c * w) + dI * (a * u * (b * v))) * (a * u + b * v)))
   ((c * w * (c * w) - dI * (a * u * (b * v))) * (c * w * (c * w) + dI * (a * u * (b * v)))) (addP P Q) := by
 unfold Proj at *
 obtain ⟨hc, ha, hb⟩ := h
 obtain ⟨hw, hu, hv⟩ := k
 have hx := add_x hP hQ
 have hy := add_y hP hQ
 have hd1 := den_plus hP hQ
 have hd2 := den_minus hP hQ
 rw [den_1] at hx hd1
 rw [den_m] at hy hd2
 generalize ((addP P Q).1 : Int) = x3 at *
 generalize ((addP P Q).2 : Int) = y3 at *
 generalize (P.1 : Int) = x1 at *
 generalize (P.2 : Int) = y1 at *
 generalize (Q.1 : Int) = x2 at *
 generalize (Q.2 : Int) = y2 at *
 have hau : Z (a * u - x1 * x2 * (c * w)) := ((ha.mul u).add (hu.mul (x1 * c))).eq (by grind)
 have hbv : Z (b * v - y1 * y2 * (c * w)) := ((hb.mul v).add (hv.mul (y1 * c))).eq (by grind)
 have hav : Z (a * v - x1 * y2 * (c * w)) := ((ha.mul v).add (hv.mul (x1 * c))).eq (by grind)
 have hbu : Z (b * u - y1 * x2 * (c * w)) := ((hb.mul u).add (hu.mul (y1 * c))).eq (by grind)
 have hq : ¬ Z (c * w) := Z.mul_ne hc hw
 have hq2 : ¬ Z (c * w * (c * w)) := Z.mul_ne hq hq
 have hab : Z (a * u * (b * v) - x1 * x2 * y1 * y2 * (c * w * (c * w))) := ((hau.mul (b * v)).add (hbv.mul (x1 * x2 * (c * w)))).eq (by grind)
 have hcr : Z ((a + b) * (u + v) - (a * u + b * v) - (x1 * y2 + y1 * x2) * (c * w)) := (hav.add hbu).eq (by grind)
 have hbo : Z (a * u + b * v - (x1 * x2 + y1 * y2) * (c * w)) := (hau.add hbv).eq (by grind)
 generalize (a + b) * (u + v) - (a * u + b * v) = cr at *
 generalize a * u + b * v = bo at *
 generalize a * u * (b * v) = m at *
 generalize c * w = q at *
 have hf : Z (q * q - dI * m - q * q * (1 - dI * (x1 * x2 * y1 * y2))) := (hab.mul (-dI)).eq (by grind)
 have hg : Z (q * q + dI * m - q * q * (1 + dI * (x1 * x2 * y1 * y2))) := (hab.mul dI).eq (by grind)
 have hfn : ¬ Z (q * q - dI * m) := fun h => Z.mul_ne hq2 hd2 ((h.sub hf).eq (by grind))
 have hgn : ¬ Z (q * q + dI * m) := fun h => Z.mul_ne hq2 hd1 ((h.sub hg).eq (by grind))
 generalize q * q - dI * m = f at *
 generalize q * q + dI * m = g at *
 refine ⟨Z.mul_ne hfn hgn, ?_, ?_⟩
 ·
  have h1 : Z (q * cr - x3 * g) := (((hcr.mul q).sub (hx.mul (q * q))).sub (hg.mul x3)).eq (by grind)
  exact (h1.mul f).eq (by grind)
 ·have h1 : Z (q * bo - y3 * f) := (((hbo.mul q).sub (hy.mul (q * q))).sub (hf.mul y3)).eq (by grind)
  exact (h1.mul g).eq (by grind)
structure FW where
 x : List Nat
 y : List Nat
 z : List Nat
def crossW (p q : FW) : List Nat := minusW (timesW (plusW p.x p.y) (plusW q.x q.y)) (plusW (timesW p.x q.x) (timesW p.y q.y))
def plusF (ds : List Nat) (p q : FW) : FW :=
 let a := timesW p.z q.z
 let b := timesW a a
 let c := timesW p.x q.x
 let e := timesW p.y q.y
 let m := timesW ds (timesW c e)
 let f := minusW b m
 let g := plusW b m
 ⟨timesW a (timesW f (crossW p q)), timesW a (timesW g (plusW c e)), timesW f g⟩
def FP (p : FW) (P : Pt) : Prop := PF p.x p.y p.z P
theorem fp_plus {ds : List Nat} {p q : FW} {P Q : Pt} (hd : Rep ds dN) (hP : Val P) (hQ : Val Q) (h : FP p P) (k : FP q Q) : FP (plusF ds p q) (addP P Q) := by
 obtain ⟨a, b, c, h1, h2, h3, h4⟩ := h
 obtain ⟨u, v, w, k1, k2, k3, k4⟩ := k
 have hd := irep_nat hd
 rw [show ((dN : Nat) : Int) = dI from rfl] at hd
 have ra := irep_times h3 k3
 have rb := irep_times ra ra
 have rc := irep_times h1 k1
 have re := irep_times h2 k2
 have rm := irep_times hd (irep_times rc re)
 have rf := irep_minus rb rm
 have rg := irep_plus rb rm
 have rcr := irep_minus (irep_times (irep_plus h1 h2) (irep_plus k1 k2)) (irep_plus rc re)
 exact ⟨_, _, _, irep_times ra (irep_times rf rcr), irep_times ra (irep_times rg (irep_plus rc re)), irep_times rf rg, proj_plus hP hQ h4 k4⟩
theorem FP.goods {p : FW} {P : Pt} (h : FP p P) : Good p.x ∧ Good p.y ∧ Good p.z := let ⟨_, _, _, h1, h2, h3, _⟩ := h; ⟨h1.good, h2.good, h3.good⟩
theorem near_pt {A B C : Nat} {P : Pt} (hP : Val P) (h : Proj A B C P) : fmul (A % p25519) (pw (C % p25519) 57896044618658097711785492504343953926634992332820282019728792003956564819947) = P.1 ∧ fmul (B % p25519) (pw (C % p25519) 57896044618658097711785492504343953926634992332820282019728792003956564819947) = P.2 := by
 obtain ⟨h1, h2, h3⟩ := h
 have hm : ∀ X : Nat, Z (((X % p25519 : Nat) : Int) - X) := fun X => by unfold Z p25519; omega
 refine ext_point (t := cn ((P.1 : Int) * P.2 * ((C % p25519 : Nat) : Int))) hP ⟨fun h => h1 ((h.sub (hm C)).eq (by omega)), ?_, ?_, cn_Z _⟩
 ·exact (((hm A).add h2).sub ((hm C).mul (P.1 : Int))).eq (by grind)
 ·exact (((hm B).add h3).sub ((hm C).mul (P.2 : Int))).eq (by grind)
theorem proj_of (P : Pt) : Proj P.1 P.2 (1 : Nat) P := ⟨not_one, Z.zero.eq (by simp), Z.zero.eq (by simp)⟩
theorem proj_Z {a b c a' b' c' : Int} {P : Pt} (h : Proj a b c P) (ha : Z (a' - a)) (hb : Z (b' - b)) (hc : Z (c' - c)) : Proj a' b' c' P := by
 obtain ⟨h1, h2, h3⟩ := h
 exact ⟨fun k => h1 ((k.sub hc).eq (by omega)), ((ha.add h2).sub (hc.mul (P.1 : Int))).eq (by grind), ((hb.add h3).sub (hc.mul (P.2 : Int))).eq (by grind)⟩
end Go.Proofs.Ytmpjigghgedjbaa
namespace Go.Proofs.Ytmpjigghgedjbaa
open Go Go.RowKit Go.V
theorem plus_w (xs ys : List Nat) (hx : Good xs) (hy : Good ys) (w : World) :
  Calls Try.prog 76 #[tenV xs, tenV ys] w (Ret fun v w' => v = tenV (plusW xs ys) ∧ Grow w w') := by
 refine V.calls (args := [_, _]) Try.func76 rfl Try.ntmps76 rfl rfl ?_
 have lx := hx.len
 have ly := hy.len
 have lz : (addW xs ys).length = 10 := addW_len _ _
 have yz : (wL (addW xs ys)).length = 10 := by rw [wL_len, lz]
 have yp : (wL (plusW xs ys)).length = 10 := by rw [wL_len]; unfold plusW; exact carry_len lz
 have hcar : ∀ v, Calls Try.prog 96 #[tenV (addW xs ys)] v (Ret fun u v' => u = tenV (plusW xs ys) ∧ Grow v v') := fun v => by unfold plusW; exact carry_c _ lz (bd_good (B := 268435456) (by decide) (addW_lt hx hy)) v
 repeat (first | (refine TL.isAsg ?_; refine TL.pure rfl rfl ?_) | refine TL.nil ?_ | refine thenQ_normal ?_ | refine T.seq ?_ | refine T.region ?_ | refine T.block ?_ | (refine TL.isBox ?_; (refine TL.boxA rfl rfl ?_; intro bk w' hg hbk hsz hsz')) | (refine TL.isAlloc ?_; (refine TL.alloc rfl rfl ?_; intro bk w' hg hbk hsz hsz')))
 rename_i b1 w1 gg1 k1 s1 t1 b2 w2 gg2 k2 s2 t2
 have k3 : Blk w' bk 75 [I1 0, I1 0, I1 0, I1 0, I1 0, I1 0, I1 0, I1 0, I1 0, I1 0] := hbk
 clear hbk
 refine T.loop (S := Nat) (fun i => [(5, .int .i64 (i : Int)), (2, .pointer (some ⟨b1, 0, none⟩)), (3, .pointer (some ⟨b2, 0, none⟩)), (4, .pointer (some ⟨bk, 0, none⟩))])
  (fun i v => i ≤ 10 ∧ Blk v b1 75 (wL (updL xs (addW xs ys) i)) ∧ Blk v b2 75 (wL ys) ∧ Blk v bk 75 [I1 0, I1 0, I1 0, I1 0, I1 0, I1 0, I1 0, I1 0, I1 0, I1 0] ∧ Grow w v) (fun i => 10 - i) 0 ⟨rfl, rfl, rfl, rfl, trivial⟩
  ⟨by omega, by rw [updL_0 lx]; exact yB, yB, k3, yG⟩ ?_
 have := gg1.2
 have := gg2.2
 have hw1 : w.heap.size ≤ b1 := by omega
 have hw3 : w.heap.size ≤ bk := by omega
 have ne12 : b1 ≠ b2 := by omega
 have ne13 : b1 ≠ bk := by omega
 have ne23 : b2 ≠ bk := by omega
 clear k1 k2 k3 gg1 gg2 hg s1 t1 s2 t2 hsz hsz'
 rintro i v ⟨hi, m1, m2, m3, hG⟩
 have n1 := m1.lt
 have n2 := m2.lt
 have n3 := m3.lt
 rcases Nat.lt_or_ge i 10 with hlt | hge
 ·have g1 := hx.gd i
  have g2 := hy.gd i
  have lu := updL_len xs (addW xs ys) i
  have eu := updL_at xs (addW xs ys) hlt
  have hza : gd (addW xs ys) i = gd xs i + gd ys i := addW_gd _ _ hlt
  have hload : (wL (updL xs (addW xs ys) i))[i]? = some (I1 (gd xs i)) := by rw [wL_at (by omega), eu]
  repeat (first | (refine TL.isMove ?_; refine TL.pure rfl rfl ?_) | refine TL.nil ?_ | refine thenQ_normal ?_ | refine T.seq ?_ | refine T.region ?_ | refine T.block ?_ | (refine TL.isBin ?_; refine TL.pureT rfl yD rfl ?_) | refine T.cond_true rfl ?_ | refine T.skip ?_)
  apply T.any 8 [is _, is _, is _, is _, is _, is _, is _, is _]; (· kernel_rfl); (· ((repeat' (first | exact allDo_end | refine allDo_cons ?_ ?_)); (iterate 8 (· ((refine does_mk0 rfl rfl rfl ?_); ( intro wq _ _ hgq; (repeat (refine need_cons rfl rfl ?_; intro vq hvq; try (obtain rfl := hvq))); (refine need_nil ?_)); (repeat (first | (refine TL.isMove ?_; refine TL.pure rfl rfl ?_) | (refine TL.isIndex ?_; refine TL.indexA1 rfl rfl (by omega) rfl ?_) | (refine TL.isAdd ?_; refine TL.addN rfl rfl (by omega) rfl ?_) | refine TL.nil ?_ | (refine TL.isLoad ?_; first | refine TL.load1 rfl (Blk.cell yB hload) rfl ?_ | refine TL.load1 rfl (Blk.cell yB (wL_at (by omega))) rfl ?_))); exact one_end rfl yG rfl))))); (rintro _ _ _ hgr _ _; (repeat (refine need_cons rfl rfl ?_; intro vq hvq; try (obtain rfl := hvq))); (refine need_nil ?_))
  repeat ((refine TL.isIndex ?_; refine TL.indexA1 rfl rfl (by omega) rfl ?_))
  refine TL.storeS rfl rfl yB (by exact rfl) (by rw [wL_len]; omega) ?_
  intro w3 hu3 hbk3 hsz3
  rw [← hza, wL_set, updL_set _ _ hlt] at hbk3
  repeat (first | (refine TL.isMove ?_; refine TL.pure rfl rfl ?_) | (refine TL.isAsg ?_; refine TL.pure rfl rfl ?_) | (refine TL.isAdd ?_; refine TL.addN rfl rfl (by omega) rfl ?_) | refine TL.nil ?_ | refine thenQ_normal ?_ | refine T.region ?_ | refine blockQ_normal ?_)
  exact loopQ_normal (i + 1) ⟨rfl, rfl, rfl, rfl, trivial⟩ ⟨by omega, hbk3, yB, yB, yG⟩ (by omega)
 ·obtain rfl : i = 10 := by omega
  rw [updL_10 lz] at m1
  repeat (first | (refine TL.isMove ?_; refine TL.pure rfl rfl ?_) | refine TL.nil ?_ | refine thenQ_normal ?_ | refine T.seq ?_ | refine T.region ?_ | (refine TL.isBin ?_; refine TL.pureF rfl yD rfl ?_) | refine T.cond_false rfl ?_ | refine T.ret ?_ | refine T.exit ?_ | refine thenQ_exit ?_ | refine blockQ_hit ?_ | refine loopQ_exit ?_ | (refine TL.isLoad ?_; refine TL.loadW rfl yB (by rw [yz]; rfl) rfl ?_) | (refine TL.isFn 96 ?_; refine TL.call rfl (hcar _) rfl ?_; rintro _ _ ⟨rfl, hgc⟩) | (refine TL.isStore ?_; refine TL.storeWh rfl rfl yB (by rw [yp]; rfl) (by exact rfl) (wL_one _) ?_; intro w' hu hbk hsz))
  exact retC rfl (load_whole (by assumption) (by rw [yp]; rfl)) ⟨_, rfl, rfl, yG⟩
theorem minus_w (xs ys : List Nat) (hx : Good xs) (hy : Good ys) (w : World) :
  Calls Try.prog 77 #[tenV xs, tenV ys] w (Ret fun v w' => v = tenV (minusW xs ys) ∧ Grow w w') := by
 refine V.calls (args := [_, _]) Try.func77 rfl Try.ntmps77 rfl rfl ?_
 have lx := hx.len
 have ly := hy.len
 have lz : (subW xs ys).length = 10 := subW_len _ _
 have yz : (wL (subW xs ys)).length = 10 := by rw [wL_len, lz]
 have yp : (wL (minusW xs ys)).length = 10 := by rw [wL_len]; unfold minusW; exact carry_len lz
 have hcar : ∀ v, Calls Try.prog 96 #[tenV (subW xs ys)] v (Ret fun u v' => u = tenV (minusW xs ys) ∧ Grow v v') := fun v => by unfold minusW; exact carry_c _ lz (bd_good (B := 402653184) (by decide) (subW_lt hx hy)) v
 repeat (first | (refine TL.isAsg ?_; refine TL.pure rfl rfl ?_) | refine TL.nil ?_ | refine thenQ_normal ?_ | refine T.seq ?_ | refine T.region ?_ | refine T.block ?_ | (refine TL.isBox ?_; (refine TL.boxA rfl rfl ?_; intro bk w' hg hbk hsz hsz')) | (refine TL.isAlloc ?_; (refine TL.alloc rfl rfl ?_; intro bk w' hg hbk hsz hsz')))
 rename_i b1 w1 gg1 k1 s1 t1 b2 w2 gg2 k2 s2 t2
 have k3 : Blk w' bk 75 [I1 0, I1 0, I1 0, I1 0, I1 0, I1 0, I1 0, I1 0, I1 0, I1 0] := hbk
 clear hbk
 refine T.loop (S := Nat) (fun i => [(5, .int .i64 (i : Int)), (2, .pointer (some ⟨b1, 0, none⟩)), (3, .pointer (some ⟨b2, 0, none⟩)), (4, .pointer (some ⟨bk, 0, none⟩))])
  (fun i v => i ≤ 10 ∧ Blk v b1 75 (wL (updL xs (subW xs ys) i)) ∧ Blk v b2 75 (wL ys) ∧ Blk v bk 75 [I1 0, I1 0, I1 0, I1 0, I1 0, I1 0, I1 0, I1 0, I1 0, I1 0] ∧ Grow w v) (fun i => 10 - i) 0 ⟨rfl, rfl, rfl, rfl, trivial⟩
  ⟨by omega, by rw [updL_0 lx]; exact yB, yB, k3, yG⟩ ?_
 have := gg1.2
 have := gg2.2
 have hw1 : w.heap.size ≤ b1 := by omega
 have hw3 : w.heap.size ≤ bk := by omega
 have ne12 : b1 ≠ b2 := by omega
 have ne13 : b1 ≠ bk := by omega
 have ne23 : b2 ≠ bk := by omega
 clear k1 k2 k3 gg1 gg2 hg s1 t1 s2 t2 hsz hsz'
 rintro i v ⟨hi, m1, m2, m3, hG⟩
 have n1 := m1.lt
 have n2 := m2.lt
 have n3 := m3.lt
 rcases Nat.lt_or_ge i 10 with hlt | hge
 ·have g1 := hx.gd i
  have g2 := hy.gd i
  have g3 := pj_le i
  have g4 := sub_ok hy i
  have lu := updL_len xs (subW xs ys) i
  have eu := updL_at xs (subW xs ys) hlt
  have hza : gd (subW xs ys) i = gd xs i + 4 * pj i - gd ys i := subW_gd _ _ hlt
  have hload : (wL (updL xs (subW xs ys) i))[i]? = some (I1 (gd xs i)) := by rw [wL_at (by omega), eu]
  have hbl := bitsN_le i
  have hpw : 1 * 2 ^ bitsN i < 9223372036854775808 ∧ 33554432 ≤ 1 * 2 ^ bitsN i := by rcases pow_bits i with h | h <;> rw [h] <;> omega
  obtain ⟨hpw1, hpw2⟩ := hpw
  rcases Nat.eq_zero_or_pos i with h0 | h0
  ·have hpj : 1 * 2 ^ bitsN i - 1 - 18 = pj i := by subst h0; rfl
   repeat (first | (refine TL.isMove ?_; refine TL.pure rfl rfl ?_) | (refine TL.isAsg ?_; refine TL.pure rfl rfl ?_) | (refine TL.isSub ?_; refine TL.subN rfl rfl (by omega) (by omega) rfl ?_) | refine TL.nil ?_ | refine thenQ_normal ?_ | refine T.seq ?_ | refine T.region ?_ | refine T.block ?_ | (refine TL.isShl ?_; refine TL.shlN rfl rfl (by omega) (by omega) rfl ?_) | (refine TL.isBin ?_; refine TL.pureT rfl yD rfl ?_) | refine T.cond_true rfl ?_ | refine T.skip ?_ | (refine TL.isFn 97 ?_; refine TL.call rfl (bits_c i (by omega) _) rfl ?_; rintro _ _ ⟨rfl, rfl⟩))
   rw [hpj]
   apply T.any 11 [is _, is _, is _, is _, is _, is _, is _, is _, is _, is _, is _]; (· kernel_rfl); (· ((repeat' (first | exact allDo_end | refine allDo_cons ?_ ?_)); (iterate 11 (· ((refine does_mk0 rfl rfl rfl ?_); ( intro wq _ _ hgq; (repeat (refine need_cons rfl rfl ?_; intro vq hvq; try (obtain rfl := hvq))); (refine need_nil ?_)); (repeat (first | (refine TL.isMove ?_; refine TL.pure rfl rfl ?_) | (refine TL.isIndex ?_; refine TL.indexA1 rfl rfl (by omega) rfl ?_) | (refine TL.isAdd ?_; refine TL.addN rfl rfl (by omega) rfl ?_) | (refine TL.isSub ?_; refine TL.subN rfl rfl (by omega) (by omega) rfl ?_) | (refine TL.isMul ?_; refine TL.mulN rfl rfl (by omega) rfl ?_) | refine TL.nil ?_ | (refine TL.isLoad ?_; first | refine TL.load1 rfl (Blk.cell yB hload) rfl ?_ | refine TL.load1 rfl (Blk.cell yB (wL_at (by omega))) rfl ?_))); exact one_end rfl yG rfl))))); (rintro _ _ _ hgr _ _; (repeat (refine need_cons rfl rfl ?_; intro vq hvq; try (obtain rfl := hvq))); (refine need_nil ?_))
   repeat ((refine TL.isIndex ?_; refine TL.indexA1 rfl rfl (by omega) rfl ?_))
   refine TL.storeS rfl rfl yB (by exact rfl) (by rw [wL_len]; omega) ?_
   intro w3 hu3 hbk3 hsz3
   rw [← hza, wL_set, updL_set _ _ hlt] at hbk3
   repeat (first | (refine TL.isMove ?_; refine TL.pure rfl rfl ?_) | (refine TL.isAsg ?_; refine TL.pure rfl rfl ?_) | (refine TL.isAdd ?_; refine TL.addN rfl rfl (by omega) rfl ?_) | refine TL.nil ?_ | refine thenQ_normal ?_ | refine T.region ?_ | refine blockQ_normal ?_)
   exact loopQ_normal (i + 1) ⟨rfl, rfl, rfl, rfl, trivial⟩ ⟨by omega, hbk3, yB, yB, yG⟩ (by omega)
  ·have hpj : 1 * 2 ^ bitsN i - 1 = pj i := by unfold pj; rw [if_neg (by omega), Nat.one_mul]
   repeat (first | (refine TL.isMove ?_; refine TL.pure rfl rfl ?_) | (refine TL.isAsg ?_; refine TL.pure rfl rfl ?_) | (refine TL.isSub ?_; refine TL.subN rfl rfl (by omega) (by omega) rfl ?_) | refine TL.nil ?_ | refine thenQ_normal ?_ | refine T.seq ?_ | refine T.region ?_ | refine T.block ?_ | (refine TL.isShl ?_; refine TL.shlN rfl rfl (by omega) (by omega) rfl ?_) | (refine TL.isBin ?_; first | refine TL.pureT rfl yD rfl ?_ | refine TL.pureF rfl yD rfl ?_) | refine T.cond_true rfl ?_ | refine T.cond_false rfl ?_ | refine T.skip ?_ | (refine TL.isFn 97 ?_; refine TL.call rfl (bits_c i (by omega) _) rfl ?_; rintro _ _ ⟨rfl, rfl⟩))
   rw [hpj]
   apply T.any 11 [is _, is _, is _, is _, is _, is _, is _, is _, is _, is _, is _]; (· kernel_rfl); (· ((repeat' (first | exact allDo_end | refine allDo_cons ?_ ?_)); (iterate 11 (· ((refine does_mk0 rfl rfl rfl ?_); ( intro wq _ _ hgq; (repeat (refine need_cons rfl rfl ?_; intro vq hvq; try (obtain rfl := hvq))); (refine need_nil ?_)); (repeat (first | (refine TL.isMove ?_; refine TL.pure rfl rfl ?_) | (refine TL.isIndex ?_; refine TL.indexA1 rfl rfl (by omega) rfl ?_) | (refine TL.isAdd ?_; refine TL.addN rfl rfl (by omega) rfl ?_) | (refine TL.isSub ?_; refine TL.subN rfl rfl (by omega) (by omega) rfl ?_) | (refine TL.isMul ?_; refine TL.mulN rfl rfl (by omega) rfl ?_) | refine TL.nil ?_ | (refine TL.isLoad ?_; first | refine TL.load1 rfl (Blk.cell yB hload) rfl ?_ | refine TL.load1 rfl (Blk.cell yB (wL_at (by omega))) rfl ?_))); exact one_end rfl yG rfl))))); (rintro _ _ _ hgr _ _; (repeat (refine need_cons rfl rfl ?_; intro vq hvq; try (obtain rfl := hvq))); (refine need_nil ?_))
   repeat ((refine TL.isIndex ?_; refine TL.indexA1 rfl rfl (by omega) rfl ?_))
   refine TL.storeS rfl rfl yB (by exact rfl) (by rw [wL_len]; omega) ?_
   intro w3 hu3 hbk3 hsz3
   rw [← hza, wL_set, updL_set _ _ hlt] at hbk3
   repeat (first | (refine TL.isMove ?_; refine TL.pure rfl rfl ?_) | (refine TL.isAsg ?_; refine TL.pure rfl rfl ?_) | (refine TL.isAdd ?_; refine TL.addN rfl rfl (by omega) rfl ?_) | refine TL.nil ?_ | refine thenQ_normal ?_ | refine T.region ?_ | refine blockQ_normal ?_)
   exact loopQ_normal (i + 1) ⟨rfl, rfl, rfl, rfl, trivial⟩ ⟨by omega, hbk3, yB, yB, yG⟩ (by omega)
 ·obtain rfl : i = 10 := by omega
  rw [updL_10 lz] at m1
  repeat (first | (refine TL.isMove ?_; refine TL.pure rfl rfl ?_) | refine TL.nil ?_ | refine thenQ_normal ?_ | refine T.seq ?_ | refine T.region ?_ | (refine TL.isBin ?_; refine TL.pureF rfl yD rfl ?_) | refine T.cond_false rfl ?_ | refine T.ret ?_ | refine T.exit ?_ | refine thenQ_exit ?_ | refine blockQ_hit ?_ | refine loopQ_exit ?_ | (refine TL.isLoad ?_; refine TL.loadW rfl yB (by rw [yz]; rfl) rfl ?_) | (refine TL.isFn 96 ?_; refine TL.call rfl (hcar _) rfl ?_; rintro _ _ ⟨rfl, hgc⟩) | (refine TL.isStore ?_; refine TL.storeWh rfl rfl yB (by rw [yp]; rfl) (by exact rfl) (wL_one _) ?_; intro w' hu hbk hsz))
  exact retC rfl (load_whole (by assumption) (by rw [yp]; rfl)) ⟨_, rfl, rfl, yG⟩
theorem prod_lt {xs ys : List Nat} (hx : Good xs) (hy : Good ys) (i k : Nat) : gd xs i * gd ys k < 9007199254740992 := by
 have h1 := hx.gd i
 have h2 := hy.gd k
 have h3 : gd xs i * gd ys k ≤ 67109119 * 67109119 := Nat.mul_le_mul (by omega) (by omega)
 omega
theorem times_w (xs ys : List Nat) (hx : Good xs) (hy : Good ys) (w : World) :
  Calls Try.prog 78 #[tenV xs, tenV ys] w (Ret fun v w' => v = tenV (timesW xs ys) ∧ Grow w w') := by
 refine V.calls (args := [_, _]) Try.func78 rfl Try.ntmps78 rfl rfl ?_
 have lx := hx.len
 have ly := hy.len
 have hcar := carry_c (allW xs ys 10) (allW_len _ _ _) (bd_good (B := 2305843009213693952) (by decide) (allW_lt hx hy))
 have hcar2 := carry_c (carryL (allW xs ys 10)) (carry_len (allW_len _ _ _)) (bd_good (B := 4398046511104) (by decide) (carry2_good (allW_len _ _ _) (allW_lt hx hy)).1)
 have et : timesW xs ys = carryL (carryL (allW xs ys 10)) := by unfold timesW; rfl
 rw [← et] at hcar2
 have yz : (wL (allW xs ys 10)).length = 10 := by rw [wL_len]; exact allW_len _ _ _
 have yp : (wL (timesW xs ys)).length = 10 := by rw [wL_len, et]; exact carry_len (carry_len (allW_len _ _ _))
 repeat (first | (refine TL.isAsg ?_; refine TL.pure rfl rfl ?_) | refine TL.nil ?_ | refine thenQ_normal ?_ | refine T.seq ?_ | refine T.region ?_ | refine T.block ?_ | (refine TL.isBox ?_; (refine TL.boxA rfl rfl ?_; intro bk w' hg hbk hsz hsz')) | (refine TL.isAlloc ?_; (refine TL.alloc rfl rfl ?_; intro bk w' hg hbk hsz hsz')))
 rename_i b1 w1 gg1 k1 s1 t1 b2 w2 gg2 k2 s2 t2 b4 w4 gg4 k4 s4 t4
 have k3 : Blk w' bk 75 (wL (allW xs ys 0)) := by unfold allW; rw [wL_zero]; exact hbk
 have k4' : Blk w' b4 75 [I1 0, I1 0, I1 0, I1 0, I1 0, I1 0, I1 0, I1 0, I1 0, I1 0] := by exact yB
 clear hbk
 refine T.loop (S := Nat) (fun i => [(6, .int .i64 (i : Int)), (2, .pointer (some ⟨b1, 0, none⟩)), (3, .pointer (some ⟨b2, 0, none⟩)), (5, .pointer (some ⟨bk, 0, none⟩)), (4, .pointer (some ⟨b4, 0, none⟩))])
  (fun i v => i ≤ 10 ∧ Blk v b1 75 (wL xs) ∧ Blk v b2 75 (wL ys) ∧ Blk v bk 75 (wL (allW xs ys i)) ∧ Blk v b4 75 [I1 0, I1 0, I1 0, I1 0, I1 0, I1 0, I1 0, I1 0, I1 0, I1 0] ∧ Grow w v) (fun i => 10 - i) 0 ⟨rfl, rfl, rfl, rfl, rfl, trivial⟩
  ⟨by omega, yB, yB, k3, k4', yG⟩ ?_
 have := gg1.2
 have := gg2.2
 have := gg4.2
 have hw4 : w.heap.size ≤ b4 := by omega
 have hw3 : w.heap.size ≤ bk := by omega
 have ne13 : b1 ≠ bk := by omega
 have ne23 : b2 ≠ bk := by omega
 have ne43 : b4 ≠ bk := by omega
 clear k1 k2 k3 k4 k4' gg1 gg2 gg4 hg s1 t1 s2 t2 s4 t4 hsz hsz'
 rintro i v ⟨hi, m1, m2, m3, m4, hG⟩
 have n1 := m1.lt
 have n2 := m2.lt
 have n3 := m3.lt
 have n4 := m4.lt
 rcases Nat.lt_or_ge i 10 with hlt | hge
 ·repeat (first | (refine TL.isMove ?_; refine TL.pure rfl rfl ?_) | (refine TL.isAsg ?_; refine TL.pure rfl rfl ?_) | refine TL.nil ?_ | refine thenQ_normal ?_ | refine T.seq ?_ | refine T.region ?_ | refine T.block ?_ | (refine TL.isBin ?_; refine TL.pureT rfl yD rfl ?_) | refine T.cond_true rfl ?_ | refine T.skip ?_)
  refine T.loop (S := Nat) (fun k => [(7, .int .i64 (k : Int)), (6, .int .i64 (i : Int)), (2, .pointer (some ⟨b1, 0, none⟩)), (3, .pointer (some ⟨b2, 0, none⟩)), (5, .pointer (some ⟨bk, 0, none⟩)), (4, .pointer (some ⟨b4, 0, none⟩))])
   (fun k v => k ≤ 10 ∧ Blk v b1 75 (wL xs) ∧ Blk v b2 75 (wL ys) ∧ Blk v bk 75 (wL (rowW xs ys i k (allW xs ys i))) ∧ Blk v b4 75 [I1 0, I1 0, I1 0, I1 0, I1 0, I1 0, I1 0, I1 0, I1 0, I1 0] ∧ Grow w v) (fun k => 10 - k) 0 ⟨rfl, rfl, rfl, rfl, rfl, rfl, trivial⟩
   ⟨by omega, yB, yB, by unfold rowW; exact m3, yB, yG⟩ ?_
  clear m1 m2 m3 m4 hG n1 n2 n3 n4 v
  rintro k v ⟨hk, m1, m2, m3, m4, hG⟩
  have n1 := m1.lt
  have n2 := m2.lt
  have n3 := m3.lt
  have n4 := m4.lt
  rcases Nat.lt_or_ge k 10 with hkl | hkl
  ·have lr := rowW_len xs ys i (allW_len xs ys i) k
   have hle := (rowW_le hx hy hlt (allW_len xs ys i) (allW_le hx hy i (by omega)) k (by omega)).1 ((i + k) % 10)
   have hpl := prod_lt hx hy i k
   have hstep : rowW xs ys i (k + 1) (allW xs ys i) = (rowW xs ys i k (allW xs ys i)).set ((i + k) % 10) (gd (rowW xs ys i k (allW xs ys i)) ((i + k) % 10) + termW xs ys i k) := by
    rw [rowW]
   generalize rowW xs ys i k (allW xs ys i) = out at *
   have hterm : termW xs ys i k = (if 9 < i + k then 19 * (if i % 2 = 1 ∧ k % 2 = 1 then 2 * (gd xs i * gd ys k) else gd xs i * gd ys k) else (if i % 2 = 1 ∧ k % 2 = 1 then 2 * (gd xs i * gd ys k) else gd xs i * gd ys k)) := by unfold termW; rfl
   have finish : ∀ v' t, t = termW xs ys i k → ∀ {v1}, Grow v v1 → Upd bk v1 v' → Blk v' bk 75 ((wL out).set ((i + k) % 10) (I1 (gd out ((i + k) % 10) + t))) → Blk v' b1 75 (wL xs) ∧ Blk v' b2 75 (wL ys) ∧ Blk v' bk 75 (wL (rowW xs ys i (k + 1) (allW xs ys i))) ∧ Blk v' b4 75 [I1 0, I1 0, I1 0, I1 0, I1 0, I1 0, I1 0, I1 0, I1 0, I1 0] ∧ Grow w v' := by
    rintro v' t rfl v1 hgv hu hb
    rw [wL_set, ← hstep] at hb
    exact ⟨yB, yB, hb, yB, yG⟩
   rcases Nat.lt_or_ge 9 (i + k) with hik | hik
   ·rcases Nat.mod_two_eq_zero_or_one i with hpi | hpi
    ·have hodd : ¬ (i % 2 = 1 ∧ k % 2 = 1) := by omega
     rw [if_pos hik, if_neg hodd] at hterm
     repeat (first | (refine TL.isMove ?_; refine TL.pure rfl rfl ?_) | refine TL.nil ?_ | refine thenQ_normal ?_ | refine T.seq ?_ | refine T.region ?_ | refine T.block ?_ | (refine TL.isBin ?_; refine TL.pureT rfl yD rfl ?_) | refine T.cond_true rfl ?_ | refine T.skip ?_)
     apply T.any 7 [is _, is _, is _, is _, is _, is _, is _]; (· kernel_rfl); (· ((repeat' (first | exact allDo_end | refine allDo_cons ?_ ?_)); (iterate 7 (· ((refine does_mk0 rfl rfl rfl ?_); ( intro wq _ _ hgq; (repeat (refine need_cons rfl rfl ?_; intro vq hvq; try (obtain rfl := hvq))); (refine need_nil ?_)); (repeat (first | (refine TL.isMove ?_; refine TL.pure rfl rfl ?_) | (refine TL.isIndex ?_; refine TL.indexA1 rfl rfl (by omega) rfl ?_) | (refine TL.isMul ?_; refine TL.mulN rfl rfl (by omega) rfl ?_) | refine TL.nil ?_ | (refine TL.isLoad ?_; refine TL.load1 rfl (Blk.cell yB (wL_at (by omega))) rfl ?_))); exact one_end rfl yG rfl))))); (rintro _ _ _ hgr _ _; (repeat (refine need_cons rfl rfl ?_; intro vq hvq; try (obtain rfl := hvq))); (refine need_nil ?_))
     repeat (first | refine TL.guard_skip rfl rfl rfl ?_ | (refine TL.isMove ?_; refine TL.pure rfl rfl ?_) | (refine TL.isAsg ?_; refine TL.pure rfl rfl ?_) | (refine TL.isIndex ?_; refine TL.indexA1 rfl rfl (by omega) rfl ?_) | (refine TL.isAdd ?_; refine TL.addN rfl rfl (by omega) rfl ?_) | (refine TL.isMul ?_; refine TL.mulN rfl rfl (by omega) rfl ?_) | refine TL.nil ?_ | refine thenQ_normal ?_ | refine T.seq ?_ | refine T.region ?_ | (refine TL.isRem ?_; refine TL.remU rfl rfl (by omega) rfl ?_) | (refine TL.isBin ?_; first | refine TL.pureT rfl yD rfl ?_ | refine TL.pureF rfl yD rfl ?_) | refine T.cond_true rfl ?_ | refine T.cond_false rfl ?_ | refine T.skip ?_ | refine TL.pure rfl rfl ?_ | (refine TL.isLoad ?_; refine TL.load1 rfl (Blk.cell yB (wL_at (by omega))) rfl ?_))
     refine TL.storeS rfl rfl yB (by exact rfl) (by rw [wL_len]; omega) ?_
     intro w3 hu3 hbk3 hsz3
     have hfin := finish w3 _ hterm.symm hgr hu3 hbk3
     repeat (first | (refine TL.isMove ?_; refine TL.pure rfl rfl ?_) | (refine TL.isAsg ?_; refine TL.pure rfl rfl ?_) | (refine TL.isAdd ?_; refine TL.addN rfl rfl (by omega) rfl ?_) | refine TL.nil ?_ | refine thenQ_normal ?_ | refine T.region ?_ | refine blockQ_normal ?_)
     exact loopQ_normal (k + 1) ⟨rfl, rfl, rfl, rfl, rfl, rfl, trivial⟩ ⟨by omega, hfin⟩ (by omega)
    ·rcases Nat.mod_two_eq_zero_or_one k with hpk | hpk
     ·have hodd : ¬ (i % 2 = 1 ∧ k % 2 = 1) := by omega
      rw [if_pos hik, if_neg hodd] at hterm
      repeat (first | (refine TL.isMove ?_; refine TL.pure rfl rfl ?_) | refine TL.nil ?_ | refine thenQ_normal ?_ | refine T.seq ?_ | refine T.region ?_ | refine T.block ?_ | (refine TL.isBin ?_; refine TL.pureT rfl yD rfl ?_) | refine T.cond_true rfl ?_ | refine T.skip ?_)
      apply T.any 7 [is _, is _, is _, is _, is _, is _, is _]; (· kernel_rfl); (· ((repeat' (first | exact allDo_end | refine allDo_cons ?_ ?_)); (iterate 7 (· ((refine does_mk0 rfl rfl rfl ?_); ( intro wq _ _ hgq; (repeat (refine need_cons rfl rfl ?_; intro vq hvq; try (obtain rfl := hvq))); (refine need_nil ?_)); (repeat (first | (refine TL.isMove ?_; refine TL.pure rfl rfl ?_) | (refine TL.isIndex ?_; refine TL.indexA1 rfl rfl (by omega) rfl ?_) | (refine TL.isMul ?_; refine TL.mulN rfl rfl (by omega) rfl ?_) | refine TL.nil ?_ | (refine TL.isLoad ?_; refine TL.load1 rfl (Blk.cell yB (wL_at (by omega))) rfl ?_))); exact one_end rfl yG rfl))))); (rintro _ _ _ hgr _ _; (repeat (refine need_cons rfl rfl ?_; intro vq hvq; try (obtain rfl := hvq))); (refine need_nil ?_))
      repeat (first | refine TL.guard_run rfl rfl rfl ?_ | (refine TL.isMove ?_; refine TL.pure rfl rfl ?_) | (refine TL.isAsg ?_; refine TL.pure rfl rfl ?_) | (refine TL.isIndex ?_; refine TL.indexA1 rfl rfl (by omega) rfl ?_) | (refine TL.isAdd ?_; refine TL.addN rfl rfl (by omega) rfl ?_) | (refine TL.isMul ?_; refine TL.mulN rfl rfl (by omega) rfl ?_) | refine TL.nil ?_ | refine thenQ_normal ?_ | refine T.seq ?_ | refine T.region ?_ | (refine TL.isRem ?_; refine TL.remU rfl rfl (by omega) rfl ?_) | (refine TL.isBin ?_; first | refine TL.pureT rfl yD rfl ?_ | refine TL.pureF rfl yD rfl ?_) | refine T.cond_true rfl ?_ | refine T.cond_false rfl ?_ | refine T.skip ?_ | refine TL.pure rfl rfl ?_ | (refine TL.isLoad ?_; refine TL.load1 rfl (Blk.cell yB (wL_at (by omega))) rfl ?_))
      refine TL.storeS rfl rfl yB (by exact rfl) (by rw [wL_len]; omega) ?_
      intro w3 hu3 hbk3 hsz3
      have hfin := finish w3 _ hterm.symm hgr hu3 hbk3
      repeat (first | (refine TL.isMove ?_; refine TL.pure rfl rfl ?_) | (refine TL.isAsg ?_; refine TL.pure rfl rfl ?_) | (refine TL.isAdd ?_; refine TL.addN rfl rfl (by omega) rfl ?_) | refine TL.nil ?_ | refine thenQ_normal ?_ | refine T.region ?_ | refine blockQ_normal ?_)
      exact loopQ_normal (k + 1) ⟨rfl, rfl, rfl, rfl, rfl, rfl, trivial⟩ ⟨by omega, hfin⟩ (by omega)
     ·have hodd : i % 2 = 1 ∧ k % 2 = 1 := by omega
      rw [if_pos hik, if_pos hodd] at hterm
      repeat (first | (refine TL.isMove ?_; refine TL.pure rfl rfl ?_) | refine TL.nil ?_ | refine thenQ_normal ?_ | refine T.seq ?_ | refine T.region ?_ | refine T.block ?_ | (refine TL.isBin ?_; refine TL.pureT rfl yD rfl ?_) | refine T.cond_true rfl ?_ | refine T.skip ?_)
      apply T.any 7 [is _, is _, is _, is _, is _, is _, is _]; (· kernel_rfl); (· ((repeat' (first | exact allDo_end | refine allDo_cons ?_ ?_)); (iterate 7 (· ((refine does_mk0 rfl rfl rfl ?_); ( intro wq _ _ hgq; (repeat (refine need_cons rfl rfl ?_; intro vq hvq; try (obtain rfl := hvq))); (refine need_nil ?_)); (repeat (first | (refine TL.isMove ?_; refine TL.pure rfl rfl ?_) | (refine TL.isIndex ?_; refine TL.indexA1 rfl rfl (by omega) rfl ?_) | (refine TL.isMul ?_; refine TL.mulN rfl rfl (by omega) rfl ?_) | refine TL.nil ?_ | (refine TL.isLoad ?_; refine TL.load1 rfl (Blk.cell yB (wL_at (by omega))) rfl ?_))); exact one_end rfl yG rfl))))); (rintro _ _ _ hgr _ _; (repeat (refine need_cons rfl rfl ?_; intro vq hvq; try (obtain rfl := hvq))); (refine need_nil ?_))
      repeat (first | refine TL.guard_run rfl rfl rfl ?_ | (refine TL.isMove ?_; refine TL.pure rfl rfl ?_) | (refine TL.isAsg ?_; refine TL.pure rfl rfl ?_) | (refine TL.isIndex ?_; refine TL.indexA1 rfl rfl (by omega) rfl ?_) | (refine TL.isAdd ?_; refine TL.addN rfl rfl (by omega) rfl ?_) | (refine TL.isMul ?_; refine TL.mulN rfl rfl (by omega) rfl ?_) | refine TL.nil ?_ | refine thenQ_normal ?_ | refine T.seq ?_ | refine T.region ?_ | (refine TL.isRem ?_; refine TL.remU rfl rfl (by omega) rfl ?_) | (refine TL.isBin ?_; refine TL.pureT rfl yD rfl ?_) | refine T.cond_true rfl ?_ | refine TL.pure rfl rfl ?_ | (refine TL.isLoad ?_; refine TL.load1 rfl (Blk.cell yB (wL_at (by omega))) rfl ?_))
      refine TL.storeS rfl rfl yB (by exact rfl) (by rw [wL_len]; omega) ?_
      intro w3 hu3 hbk3 hsz3
      have hfin := finish w3 _ hterm.symm hgr hu3 hbk3
      repeat (first | (refine TL.isMove ?_; refine TL.pure rfl rfl ?_) | (refine TL.isAsg ?_; refine TL.pure rfl rfl ?_) | (refine TL.isAdd ?_; refine TL.addN rfl rfl (by omega) rfl ?_) | refine TL.nil ?_ | refine thenQ_normal ?_ | refine T.region ?_ | refine blockQ_normal ?_)
      exact loopQ_normal (k + 1) ⟨rfl, rfl, rfl, rfl, rfl, rfl, trivial⟩ ⟨by omega, hfin⟩ (by omega)
   ·rcases Nat.mod_two_eq_zero_or_one i with hpi | hpi
    ·have hodd : ¬ (i % 2 = 1 ∧ k % 2 = 1) := by omega
     rw [if_neg (Nat.not_lt.2 hik), if_neg hodd] at hterm
     repeat (first | (refine TL.isMove ?_; refine TL.pure rfl rfl ?_) | refine TL.nil ?_ | refine thenQ_normal ?_ | refine T.seq ?_ | refine T.region ?_ | refine T.block ?_ | (refine TL.isBin ?_; refine TL.pureT rfl yD rfl ?_) | refine T.cond_true rfl ?_ | refine T.skip ?_)
     apply T.any 7 [is _, is _, is _, is _, is _, is _, is _]; (· kernel_rfl); (· ((repeat' (first | exact allDo_end | refine allDo_cons ?_ ?_)); (iterate 7 (· ((refine does_mk0 rfl rfl rfl ?_); ( intro wq _ _ hgq; (repeat (refine need_cons rfl rfl ?_; intro vq hvq; try (obtain rfl := hvq))); (refine need_nil ?_)); (repeat (first | (refine TL.isMove ?_; refine TL.pure rfl rfl ?_) | (refine TL.isIndex ?_; refine TL.indexA1 rfl rfl (by omega) rfl ?_) | (refine TL.isMul ?_; refine TL.mulN rfl rfl (by omega) rfl ?_) | refine TL.nil ?_ | (refine TL.isLoad ?_; refine TL.load1 rfl (Blk.cell yB (wL_at (by omega))) rfl ?_))); exact one_end rfl yG rfl))))); (rintro _ _ _ hgr _ _; (repeat (refine need_cons rfl rfl ?_; intro vq hvq; try (obtain rfl := hvq))); (refine need_nil ?_))
     repeat (first | refine TL.guard_skip rfl rfl rfl ?_ | (refine TL.isMove ?_; refine TL.pure rfl rfl ?_) | (refine TL.isAsg ?_; refine TL.pure rfl rfl ?_) | (refine TL.isIndex ?_; refine TL.indexA1 rfl rfl (by omega) rfl ?_) | (refine TL.isAdd ?_; refine TL.addN rfl rfl (by omega) rfl ?_) | refine TL.nil ?_ | refine thenQ_normal ?_ | refine T.seq ?_ | refine T.region ?_ | (refine TL.isRem ?_; refine TL.remU rfl rfl (by omega) rfl ?_) | (refine TL.isBin ?_; refine TL.pureF rfl yD rfl ?_) | refine T.cond_false rfl ?_ | refine T.skip ?_ | refine TL.pure rfl rfl ?_ | (refine TL.isLoad ?_; refine TL.load1 rfl (Blk.cell yB (wL_at (by omega))) rfl ?_))
     refine TL.storeS rfl rfl yB (by exact rfl) (by rw [wL_len]; omega) ?_
     intro w3 hu3 hbk3 hsz3
     have hfin := finish w3 _ hterm.symm hgr hu3 hbk3
     repeat (first | (refine TL.isMove ?_; refine TL.pure rfl rfl ?_) | (refine TL.isAsg ?_; refine TL.pure rfl rfl ?_) | (refine TL.isAdd ?_; refine TL.addN rfl rfl (by omega) rfl ?_) | refine TL.nil ?_ | refine thenQ_normal ?_ | refine T.region ?_ | refine blockQ_normal ?_)
     exact loopQ_normal (k + 1) ⟨rfl, rfl, rfl, rfl, rfl, rfl, trivial⟩ ⟨by omega, hfin⟩ (by omega)
    ·rcases Nat.mod_two_eq_zero_or_one k with hpk | hpk
     ·have hodd : ¬ (i % 2 = 1 ∧ k % 2 = 1) := by omega
      rw [if_neg (Nat.not_lt.2 hik), if_neg hodd] at hterm
      repeat (first | (refine TL.isMove ?_; refine TL.pure rfl rfl ?_) | refine TL.nil ?_ | refine thenQ_normal ?_ | refine T.seq ?_ | refine T.region ?_ | refine T.block ?_ | (refine TL.isBin ?_; refine TL.pureT rfl yD rfl ?_) | refine T.cond_true rfl ?_ | refine T.skip ?_)
      apply T.any 7 [is _, is _, is _, is _, is _, is _, is _]; (· kernel_rfl); (· ((repeat' (first | exact allDo_end | refine allDo_cons ?_ ?_)); (iterate 7 (· ((refine does_mk0 rfl rfl rfl ?_); ( intro wq _ _ hgq; (repeat (refine need_cons rfl rfl ?_; intro vq hvq; try (obtain rfl := hvq))); (refine need_nil ?_)); (repeat (first | (refine TL.isMove ?_; refine TL.pure rfl rfl ?_) | (refine TL.isIndex ?_; refine TL.indexA1 rfl rfl (by omega) rfl ?_) | (refine TL.isMul ?_; refine TL.mulN rfl rfl (by omega) rfl ?_) | refine TL.nil ?_ | (refine TL.isLoad ?_; refine TL.load1 rfl (Blk.cell yB (wL_at (by omega))) rfl ?_))); exact one_end rfl yG rfl))))); (rintro _ _ _ hgr _ _; (repeat (refine need_cons rfl rfl ?_; intro vq hvq; try (obtain rfl := hvq))); (refine need_nil ?_))
      repeat (first | refine TL.guard_run rfl rfl rfl ?_ | (refine TL.isMove ?_; refine TL.pure rfl rfl ?_) | (refine TL.isAsg ?_; refine TL.pure rfl rfl ?_) | (refine TL.isIndex ?_; refine TL.indexA1 rfl rfl (by omega) rfl ?_) | (refine TL.isAdd ?_; refine TL.addN rfl rfl (by omega) rfl ?_) | refine TL.nil ?_ | refine thenQ_normal ?_ | refine T.seq ?_ | refine T.region ?_ | (refine TL.isRem ?_; refine TL.remU rfl rfl (by omega) rfl ?_) | (refine TL.isBin ?_; first | refine TL.pureT rfl yD rfl ?_ | refine TL.pureF rfl yD rfl ?_) | refine T.cond_false rfl ?_ | refine T.skip ?_ | refine TL.pure rfl rfl ?_ | (refine TL.isLoad ?_; refine TL.load1 rfl (Blk.cell yB (wL_at (by omega))) rfl ?_))
      refine TL.storeS rfl rfl yB (by exact rfl) (by rw [wL_len]; omega) ?_
      intro w3 hu3 hbk3 hsz3
      have hfin := finish w3 _ hterm.symm hgr hu3 hbk3
      repeat (first | (refine TL.isMove ?_; refine TL.pure rfl rfl ?_) | (refine TL.isAsg ?_; refine TL.pure rfl rfl ?_) | (refine TL.isAdd ?_; refine TL.addN rfl rfl (by omega) rfl ?_) | refine TL.nil ?_ | refine thenQ_normal ?_ | refine T.region ?_ | refine blockQ_normal ?_)
      exact loopQ_normal (k + 1) ⟨rfl, rfl, rfl, rfl, rfl, rfl, trivial⟩ ⟨by omega, hfin⟩ (by omega)
     ·have hodd : i % 2 = 1 ∧ k % 2 = 1 := by omega
      rw [if_neg (Nat.not_lt.2 hik), if_pos hodd] at hterm
      repeat (first | (refine TL.isMove ?_; refine TL.pure rfl rfl ?_) | refine TL.nil ?_ | refine thenQ_normal ?_ | refine T.seq ?_ | refine T.region ?_ | refine T.block ?_ | (refine TL.isBin ?_; refine TL.pureT rfl yD rfl ?_) | refine T.cond_true rfl ?_ | refine T.skip ?_)
      apply T.any 7 [is _, is _, is _, is _, is _, is _, is _]; (· kernel_rfl); (· ((repeat' (first | exact allDo_end | refine allDo_cons ?_ ?_)); (iterate 7 (· ((refine does_mk0 rfl rfl rfl ?_); ( intro wq _ _ hgq; (repeat (refine need_cons rfl rfl ?_; intro vq hvq; try (obtain rfl := hvq))); (refine need_nil ?_)); (repeat (first | (refine TL.isMove ?_; refine TL.pure rfl rfl ?_) | (refine TL.isIndex ?_; refine TL.indexA1 rfl rfl (by omega) rfl ?_) | (refine TL.isMul ?_; refine TL.mulN rfl rfl (by omega) rfl ?_) | refine TL.nil ?_ | (refine TL.isLoad ?_; refine TL.load1 rfl (Blk.cell yB (wL_at (by omega))) rfl ?_))); exact one_end rfl yG rfl))))); (rintro _ _ _ hgr _ _; (repeat (refine need_cons rfl rfl ?_; intro vq hvq; try (obtain rfl := hvq))); (refine need_nil ?_))
      repeat (first | refine TL.guard_run rfl rfl rfl ?_ | (refine TL.isMove ?_; refine TL.pure rfl rfl ?_) | (refine TL.isAsg ?_; refine TL.pure rfl rfl ?_) | (refine TL.isIndex ?_; refine TL.indexA1 rfl rfl (by omega) rfl ?_) | (refine TL.isAdd ?_; refine TL.addN rfl rfl (by omega) rfl ?_) | (refine TL.isMul ?_; refine TL.mulN rfl rfl (by omega) rfl ?_) | refine TL.nil ?_ | refine thenQ_normal ?_ | refine T.seq ?_ | refine T.region ?_ | (refine TL.isRem ?_; refine TL.remU rfl rfl (by omega) rfl ?_) | (refine TL.isBin ?_; first | refine TL.pureT rfl yD rfl ?_ | refine TL.pureF rfl yD rfl ?_) | refine T.cond_true rfl ?_ | refine T.cond_false rfl ?_ | refine T.skip ?_ | refine TL.pure rfl rfl ?_ | (refine TL.isLoad ?_; refine TL.load1 rfl (Blk.cell yB (wL_at (by omega))) rfl ?_))
      refine TL.storeS rfl rfl yB (by exact rfl) (by rw [wL_len]; omega) ?_
      intro w3 hu3 hbk3 hsz3
      have hfin := finish w3 _ hterm.symm hgr hu3 hbk3
      repeat (first | (refine TL.isMove ?_; refine TL.pure rfl rfl ?_) | (refine TL.isAsg ?_; refine TL.pure rfl rfl ?_) | (refine TL.isAdd ?_; refine TL.addN rfl rfl (by omega) rfl ?_) | refine TL.nil ?_ | refine thenQ_normal ?_ | refine T.region ?_ | refine blockQ_normal ?_)
      exact loopQ_normal (k + 1) ⟨rfl, rfl, rfl, rfl, rfl, rfl, trivial⟩ ⟨by omega, hfin⟩ (by omega)
  ·obtain rfl : k = 10 := by omega
   have : rowW xs ys i 10 (allW xs ys i) = allW xs ys (i + 1) := by rw [allW]
   rw [this] at m3
   repeat (first | (refine TL.isMove ?_; refine TL.pure rfl rfl ?_) | (refine TL.isAsg ?_; refine TL.pure rfl rfl ?_) | (refine TL.isAdd ?_; refine TL.addN rfl rfl (by omega) rfl ?_) | refine TL.nil ?_ | refine thenQ_normal ?_ | refine T.seq ?_ | refine T.region ?_ | refine blockQ_normal ?_ | (refine TL.isBin ?_; refine TL.pureF rfl yD rfl ?_) | refine T.cond_false rfl ?_ | refine T.exit ?_ | refine thenQ_exit ?_ | refine blockQ_hit ?_ | refine loopQ_exit ?_)
   exact loopQ_normal (i + 1) ⟨rfl, rfl, rfl, rfl, rfl, trivial⟩ ⟨by omega, yB, yB, yB, yB, yG⟩ (by omega)
 ·obtain rfl : i = 10 := by omega
  repeat (first | (refine TL.isMove ?_; refine TL.pure rfl rfl ?_) | refine TL.nil ?_ | refine thenQ_normal ?_ | refine T.seq ?_ | refine T.region ?_ | (refine TL.isBin ?_; refine TL.pureF rfl yD rfl ?_) | refine T.cond_false rfl ?_ | refine T.exit ?_ | refine thenQ_exit ?_ | refine blockQ_hit ?_ | refine loopQ_exit ?_ | (refine TL.isLoad ?_; refine TL.loadW rfl yB (by rw [yz]; rfl) rfl ?_))
  refine TL.call rfl (hcar _) rfl ?_
  rintro _ v1 ⟨rfl, hc1⟩
  refine TL.call rfl (hcar2 _) rfl ?_
  rintro _ v2 ⟨rfl, hc2⟩
  repeat (first | refine TL.nil ?_ | refine thenQ_normal ?_ | refine T.ret ?_ | (refine TL.isStore ?_; refine TL.storeWh rfl rfl yB (by rw [yp]; rfl) (by exact rfl) (wL_one _) ?_; intro w' hu hbk hsz))
  exact retC rfl (load_whole (by assumption) (by rw [yp]; rfl)) ⟨_, rfl, rfl, yG⟩
end Go.Proofs.Ytmpjigghgedjbaa
namespace Go.Proofs.Ytmpjigghgedjbaa
open Go Go.RowKit Go.V
def opnW (N : Nat) : List Nat := carryL (opL N 10 0)
theorem opn_w (N : Nat) (w : World) : Calls Try.prog 75 #[num N] w (Ret fun v w' => v = tenV (opnW N) ∧ Grow w w') := open_c N w
theorem rep_opn {N : Nat} (hN : N < 115792089237316195423570985008687907853269984665640564039457584007913129639936) : Rep (opnW N) N := rep_open hN
attribute [irreducible] opnW
theorem close_r {us : List Nat} {A : Nat} (h : Rep us A) (w : World) : Calls Try.prog 74 #[tenV us] w (Ret fun v w' => v = num (A % p25519) ∧ Grow w w') := by
 rw [← h.2]; exact close_c us h.1 w
theorem rest_r (N : Nat) (hN : N < 115792089237316195423570985008687907853269984665640564039457584007913129639936) (w : World) :
  Calls Try.prog 27 #[num N] w (Ret fun v w' => v = num (N % p25519) ∧ Grow w w') := by
 refine V.calls (args := [_]) Try.func27 rfl Try.ntmps27 rfl rfl ?_
 repeat (first | (refine TL.isLoad ?_; refine TL.loadW rfl yB (by exact rfl) rfl ?_) | refine TL.nil ?_ | refine thenQ_normal ?_ | refine T.seq ?_ | refine T.region ?_ | (refine TL.isStore ?_; (refine TL.storeWh rfl rfl yB (by exact rfl) (by exact rfl) (by exact rfl) ?_; intro w' hu hbk hsz)) | (refine TL.isBox ?_; (refine TL.boxA rfl rfl ?_; intro bk w' hg hbk hsz hsz')) | (refine TL.isAlloc ?_; (refine TL.alloc rfl rfl ?_; intro bk w' hg hbk hsz hsz')) | refine T.ret ?_ | (refine TL.isFn 75 ?_; refine TL.call rfl (opn_w N _) rfl ?_; rintro _ _ ⟨rfl, hgc⟩) | (refine TL.isFn 74 ?_; refine TL.call rfl (close_r (rep_opn hN) _) rfl ?_; rintro _ _ ⟨rfl, hgc⟩))
 exact retC rfl (load_whole (by assumption) rfl) ⟨_, rfl, rfl, yG⟩
theorem add_r (N M : Nat) (hN : N < 115792089237316195423570985008687907853269984665640564039457584007913129639936) (hM : M < 115792089237316195423570985008687907853269984665640564039457584007913129639936) (w : World) :
  Calls Try.prog 31 #[num N, num M] w (Ret fun v w' => v = num ((N + M) % p25519) ∧ Grow w w') := by
 refine V.calls (args := [_, _]) Try.func31 rfl Try.ntmps31 rfl rfl ?_
 have rN := rep_opn hN
 have rM := rep_opn hM
 repeat (first | refine TL.nil ?_ | refine thenQ_normal ?_ | refine T.seq ?_ | refine T.region ?_ | (refine TL.isBox ?_; (refine TL.boxA rfl rfl ?_; intro bk w' hg hbk hsz hsz')) | (refine TL.isAlloc ?_; (refine TL.alloc rfl rfl ?_; intro bk w' hg hbk hsz hsz')))
 apply T.any 6 [is _, is _, is _, is _, is _, is _]; (· kernel_rfl); (· ((repeat' (first | exact allDo_end | refine allDo_cons ?_ ?_)); (iterate 6 (· ((refine does_mk0 rfl rfl rfl ?_); ( intro wq _ _ hgq; (repeat (refine need_cons rfl rfl ?_; intro vq hvq; try (obtain rfl := hvq))); (refine need_nil ?_)); (repeat (first | (refine TL.isLoad ?_; refine TL.loadW rfl yB (by exact rfl) rfl ?_) | refine TL.nil ?_ | (refine TL.isFn 75 ?_; refine TL.call rfl (opn_w _ _) rfl ?_; rintro _ _ ⟨rfl, hgc⟩) | (refine TL.isFn 76 ?_; refine TL.call rfl (plus_w _ _ rN.1 rM.1 _) rfl ?_; rintro _ _ ⟨rfl, hgc⟩) | (refine TL.isFn 74 ?_; refine TL.call rfl (close_r (rep_plus rN rM) _) rfl ?_; rintro _ _ ⟨rfl, hgc⟩))); exact one_end rfl yG rfl))))); (rintro _ _ _ hgr _ _; (repeat (refine need_cons rfl rfl ?_; intro vq hvq; try (obtain rfl := hvq))); (refine need_nil ?_))
 repeat (first | refine TL.nil ?_ | refine thenQ_normal ?_ | (refine TL.isStore ?_; (refine TL.storeWh rfl rfl yB (by exact rfl) (by exact rfl) (by exact rfl) ?_; intro w' hu hbk hsz)) | refine T.ret ?_)
 exact retC rfl (load_whole (by assumption) rfl) ⟨_, rfl, rfl, yG⟩
theorem sub_r (N M : Nat) (hN : N < 115792089237316195423570985008687907853269984665640564039457584007913129639936) (hM : M < 115792089237316195423570985008687907853269984665640564039457584007913129639936) (w : World) :
  Calls Try.prog 33 #[num N, num M] w (Ret fun v w' => v = num ((N + (p25519 - M % p25519)) % p25519) ∧ Grow w w') := by
 refine V.calls (args := [_, _]) Try.func33 rfl Try.ntmps33 rfl rfl ?_
 have rN := rep_opn hN
 have rM := rep_opn hM
 repeat (first | refine TL.nil ?_ | refine thenQ_normal ?_ | refine T.seq ?_ | refine T.region ?_ | (refine TL.isBox ?_; (refine TL.boxA rfl rfl ?_; intro bk w' hg hbk hsz hsz')) | (refine TL.isAlloc ?_; (refine TL.alloc rfl rfl ?_; intro bk w' hg hbk hsz hsz')))
 apply T.any 6 [is _, is _, is _, is _, is _, is _]; (· kernel_rfl); (· ((repeat' (first | exact allDo_end | refine allDo_cons ?_ ?_)); (iterate 6 (· ((refine does_mk0 rfl rfl rfl ?_); ( intro wq _ _ hgq; (repeat (refine need_cons rfl rfl ?_; intro vq hvq; try (obtain rfl := hvq))); (refine need_nil ?_)); (repeat (first | (refine TL.isLoad ?_; refine TL.loadW rfl yB (by exact rfl) rfl ?_) | refine TL.nil ?_ | (refine TL.isFn 75 ?_; refine TL.call rfl (opn_w _ _) rfl ?_; rintro _ _ ⟨rfl, hgc⟩) | (refine TL.isFn 77 ?_; refine TL.call rfl (minus_w _ _ rN.1 rM.1 _) rfl ?_; rintro _ _ ⟨rfl, hgc⟩) | (refine TL.isFn 74 ?_; refine TL.call rfl (close_r (rep_minus rN rM) _) rfl ?_; rintro _ _ ⟨rfl, hgc⟩))); exact one_end rfl yG rfl))))); (rintro _ _ _ hgr _ _; (repeat (refine need_cons rfl rfl ?_; intro vq hvq; try (obtain rfl := hvq))); (refine need_nil ?_))
 repeat (first | refine TL.nil ?_ | refine thenQ_normal ?_ | (refine TL.isStore ?_; (refine TL.storeWh rfl rfl yB (by exact rfl) (by exact rfl) (by exact rfl) ?_; intro w' hu hbk hsz)) | refine T.ret ?_)
 exact retC rfl (load_whole (by assumption) rfl) ⟨_, rfl, rfl, yG⟩
theorem mul_r (N M : Nat) (hN : N < 115792089237316195423570985008687907853269984665640564039457584007913129639936) (hM : M < 115792089237316195423570985008687907853269984665640564039457584007913129639936) (w : World) :
  Calls Try.prog 35 #[num N, num M] w (Ret fun v w' => v = num (N * M % p25519) ∧ Grow w w') := by
 refine V.calls (args := [_, _]) Try.func35 rfl Try.ntmps35 rfl rfl ?_
 have rN := rep_opn hN
 have rM := rep_opn hM
 repeat (first | refine TL.nil ?_ | refine thenQ_normal ?_ | refine T.seq ?_ | refine T.region ?_ | (refine TL.isBox ?_; (refine TL.boxA rfl rfl ?_; intro bk w' hg hbk hsz hsz')) | (refine TL.isAlloc ?_; (refine TL.alloc rfl rfl ?_; intro bk w' hg hbk hsz hsz')))
 apply T.any 6 [is _, is _, is _, is _, is _, is _]; (· kernel_rfl); (· ((repeat' (first | exact allDo_end | refine allDo_cons ?_ ?_)); (iterate 6 (· ((refine does_mk0 rfl rfl rfl ?_); ( intro wq _ _ hgq; (repeat (refine need_cons rfl rfl ?_; intro vq hvq; try (obtain rfl := hvq))); (refine need_nil ?_)); (repeat (first | (refine TL.isLoad ?_; refine TL.loadW rfl yB (by exact rfl) rfl ?_) | refine TL.nil ?_ | (refine TL.isFn 75 ?_; refine TL.call rfl (opn_w _ _) rfl ?_; rintro _ _ ⟨rfl, hgc⟩) | (refine TL.isFn 78 ?_; refine TL.call rfl (times_w _ _ rN.1 rM.1 _) rfl ?_; rintro _ _ ⟨rfl, hgc⟩) | (refine TL.isFn 74 ?_; refine TL.call rfl (close_r (rep_times rN rM) _) rfl ?_; rintro _ _ ⟨rfl, hgc⟩))); exact one_end rfl yG rfl))))); (rintro _ _ _ hgr _ _; (repeat (refine need_cons rfl rfl ?_; intro vq hvq; try (obtain rfl := hvq))); (refine need_nil ?_))
 repeat (first | refine TL.nil ?_ | refine thenQ_normal ?_ | (refine TL.isStore ?_; (refine TL.storeWh rfl rfl yB (by exact rfl) (by exact rfl) (by exact rfl) ?_; intro w' hu hbk hsz)) | refine T.ret ?_)
 exact retC rfl (load_whole (by assumption) rfl) ⟨_, rfl, rfl, yG⟩
theorem neg_r (N : Nat) (hN : N < 115792089237316195423570985008687907853269984665640564039457584007913129639936) (w : World) :
  Calls Try.prog 34 #[num N] w (Ret fun v w' => v = num ((p25519 - N % p25519) % p25519) ∧ Grow w w') := by
 refine V.calls (args := [_]) Try.func34 rfl Try.ntmps34 rfl rfl ?_
 have e := sub_r 0 N (by decide) hN
 rw [Nat.zero_add] at e
 repeat (first | (refine TL.isLoad ?_; refine TL.loadW rfl yB (by exact rfl) rfl ?_) | refine TL.nil ?_ | refine thenQ_normal ?_ | refine T.seq ?_ | refine T.region ?_ | (refine TL.isBox ?_; (refine TL.boxA rfl rfl ?_; intro bk w' hg hbk hsz hsz')) | (refine TL.isAlloc ?_; (refine TL.alloc rfl rfl ?_; intro bk w' hg hbk hsz hsz')) | refine TL.buildArr rfl rfl rfl ?_)
 refine TL.call rfl (e _) rfl ?_
 rintro _ _ ⟨rfl, hgc⟩
 repeat (first | refine TL.nil ?_ | refine thenQ_normal ?_ | (refine TL.isStore ?_; (refine TL.storeWh rfl rfl yB (by exact rfl) (by exact rfl) (by exact rfl) ?_; intro w' hu hbk hsz)) | refine T.ret ?_)
 exact retC rfl (load_whole (by assumption) rfl) ⟨_, rfl, rfl, yG⟩
theorem canon_r (N : Nat) (hN : N < 115792089237316195423570985008687907853269984665640564039457584007913129639936) (w : World) :
  Calls Try.prog 28 #[num N] w (Ret fun v w' => v = .bool (decide (N % p25519 = N)) ∧ Grow w w') := by
 refine V.calls (args := [_]) Try.func28 rfl Try.ntmps28 rfl rfl ?_
 repeat (first | (refine TL.isAsg ?_; refine TL.pure rfl rfl ?_) | refine TL.nil ?_ | refine thenQ_normal ?_ | refine T.seq ?_ | refine T.region ?_ | (refine TL.isBox ?_; (refine TL.box rfl rfl rfl ?_; intro bk w' hg hbk hsz hsz')))
 apply T.any 4 [is _, is _, is _, is _]; (· kernel_rfl); (· ((repeat' (first | exact allDo_end | refine allDo_cons ?_ ?_)); (iterate 4 (· ((refine does_mk0 rfl rfl rfl ?_); ( intro wq _ _ hgq; (repeat (refine need_cons rfl rfl ?_; intro vq hvq; try (obtain rfl := hvq))); (refine need_nil ?_)); (repeat (first | (refine TL.isLoad ?_; refine TL.loadW rfl yB (by exact rfl) rfl ?_) | refine TL.nil ?_ | (refine TL.isFn 27 ?_; refine TL.call rfl (rest_r _ (by assumption) _) rfl ?_; rintro _ _ ⟨rfl, hgc⟩) | (refine TL.eqArr (xs := numL _) (ys := numL _) (decide (N % p25519 = N)) rfl rfl rfl (by trivial) rfl (num_dec (mod_big _) hN) rfl ?_))); exact one_end rfl yG rfl))))); (rintro _ _ _ hgr _ _; (repeat (refine need_cons rfl rfl ?_; intro vq hvq; try (obtain rfl := hvq))); (refine need_nil ?_))
 repeat (first | (refine TL.isAsg ?_; refine TL.pure rfl rfl ?_) | refine TL.nil ?_ | refine thenQ_normal ?_ | refine T.ret ?_)
 exact ret1 rfl ⟨_, rfl, rfl, yG⟩
theorem same_r (N M : Nat) (hN : N < 115792089237316195423570985008687907853269984665640564039457584007913129639936) (hM : M < 115792089237316195423570985008687907853269984665640564039457584007913129639936) (w : World) :
  Calls Try.prog 39 #[num N, num M] w (Ret fun v w' => v = .bool (decide (N % p25519 = M % p25519)) ∧ Grow w w') := by
 refine V.calls (args := [_, _]) Try.func39 rfl Try.ntmps39 rfl rfl ?_
 repeat (first | (refine TL.isAsg ?_; refine TL.pure rfl rfl ?_) | refine TL.nil ?_ | refine thenQ_normal ?_ | refine T.seq ?_ | refine T.region ?_ | (refine TL.isBox ?_; (refine TL.box rfl rfl rfl ?_; intro bk w' hg hbk hsz hsz')))
 apply T.any 5 [is _, is _, is _, is _, is _]; (· kernel_rfl); (· ((repeat' (first | exact allDo_end | refine allDo_cons ?_ ?_)); (iterate 5 (· ((refine does_mk0 rfl rfl rfl ?_); ( intro wq _ _ hgq; (repeat (refine need_cons rfl rfl ?_; intro vq hvq; try (obtain rfl := hvq))); (refine need_nil ?_)); (repeat (first | (refine TL.isLoad ?_; refine TL.loadW rfl yB (by exact rfl) rfl ?_) | refine TL.nil ?_ | (refine TL.isFn 27 ?_; refine TL.call rfl (rest_r _ (by assumption) _) rfl ?_; rintro _ _ ⟨rfl, hgc⟩) | (refine TL.eqArr (xs := numL _) (ys := numL _) (decide (N % p25519 = M % p25519)) rfl rfl rfl (by trivial) rfl (num_dec (mod_big _) (mod_big _)) rfl ?_))); exact one_end rfl yG rfl))))); (rintro _ _ _ hgr _ _; (repeat (refine need_cons rfl rfl ?_; intro vq hvq; try (obtain rfl := hvq))); (refine need_nil ?_))
 repeat (first | (refine TL.isAsg ?_; refine TL.pure rfl rfl ?_) | refine TL.nil ?_ | refine thenQ_normal ?_ | refine T.ret ?_)
 exact ret1 rfl ⟨_, rfl, rfl, yG⟩
theorem odd_r (N : Nat) (hN : N < 115792089237316195423570985008687907853269984665640564039457584007913129639936) (w : World) :
  Calls Try.prog 38 #[num N] w (Ret fun v w' => v = .bool (decide (N % p25519 % 2 = 1)) ∧ Grow w w') := by
 refine V.calls (args := [_]) Try.func38 rfl Try.ntmps38 rfl rfl ?_
 repeat (first | (refine TL.isAsg ?_; refine TL.pure rfl rfl ?_) | (refine TL.isLoad ?_; refine TL.loadW rfl yB (by exact rfl) rfl ?_) | refine TL.nil ?_ | refine thenQ_normal ?_ | refine T.seq ?_ | refine T.region ?_ | (refine TL.isBox ?_; (refine TL.box rfl rfl rfl ?_; intro bk w' hg hbk hsz hsz')))
 refine TL.call rfl (rest_r _ hN _) rfl ?_
 rintro _ _ ⟨rfl, hgc⟩
 refine TL.indexV (cs := numL (N % p25519)) rfl rfl (by omega) rfl rfl rfl ?_
 have hb : q0 (N % p25519) % 256 % 2 = N % p25519 % 2 := by unfold q0; omega
 refine TL.remU rfl rfl (by omega) rfl ?_
 repeat (first | (refine TL.isAsg ?_; refine TL.pure rfl rfl ?_) | refine TL.nil ?_ | refine thenQ_normal ?_ | (refine TL.isBin ?_; refine TL.pure rfl rfl ?_) | refine T.ret ?_)
 have e : (((q0 (N % p25519) % 256 % 2 : Nat) : Int) == 1) = decide (N % p25519 % 2 = 1) := by
  rw [hb]
  rcases Nat.mod_two_eq_zero_or_one (N % p25519) with h | h <;> rw [h] <;> rfl
 exact ret1 rfl ⟨_, rfl, by rw [← e], yG⟩
def stW (xs : List Nat) (E : Nat) : Nat → List Nat
 | 0 => [1, 0, 0, 0, 0, 0, 0, 0, 0, 0]
 | k + 1 => if E / 2 ^ (255 - k) % 2 = 1 then timesW (timesW (stW xs E k) (stW xs E k)) xs else timesW (stW xs E k) (stW xs E k)
theorem rep_pow {xs : List Nat} {N E : Nat} (h : Rep xs N) (hE : E < 115792089237316195423570985008687907853269984665640564039457584007913129639936) : ∀ {k : Nat}, k ≤ 256 → Rep (stW xs E k) (N ^ (E / 2 ^ (256 - k)))
 | 0, _ => by
  have : E / 2 ^ (256 - 0) = 0 := Nat.div_eq_of_lt hE
  rw [this]
  unfold stW
  exact ⟨by unfold Good; decide, rfl⟩
 | k + 1, hk => by
  have ih := rep_pow h hE (show k ≤ 256 by omega)
  have h2 := rep_times ih ih
  have e : E / 2 ^ (255 - k) = 2 * (E / 2 ^ (256 - k)) + E / 2 ^ (255 - k) % 2 := by
   rw [show 256 - k = (255 - k) + 1 by omega, Nat.pow_succ, ← Nat.div_div_eq_div_mul]; omega
  rw [show 256 - (k + 1) = 255 - k by omega, e]
  unfold stW
  split
  ·rename_i hb
   rw [hb, Nat.pow_succ, Nat.two_mul, Nat.pow_add]
   exact rep_times h2 h
  ·rename_i hb
   rw [show E / 2 ^ (255 - k) % 2 = 0 by omega, Nat.add_zero, Nat.two_mul, Nat.pow_add]
   exact h2
theorem stW_succ (xs : List Nat) (E k : Nat) : stW xs E (k + 1) = if E / 2 ^ (255 - k) % 2 = 1 then timesW (timesW (stW xs E k) (stW xs E k)) xs else timesW (stW xs E k) (stW xs E k) := by rw [stW]
theorem power_w (xs : List Nat) (N E : Nat) (hx : Rep xs N) (hE : E < 115792089237316195423570985008687907853269984665640564039457584007913129639936) (w : World) :
  Calls Try.prog 79 #[tenV xs, num E] w (Ret fun v w' => v = tenV (stW xs E 256) ∧ Grow w w') := by
 refine V.calls (args := [_, _]) Try.func79 rfl Try.ntmps79 rfl rfl ?_
 have lx : (wL xs).length = 10 := by rw [wL_len]; exact hx.1.len
 have ls : ∀ k, k ≤ 256 → (wL (stW xs E k)).length = 10 := fun k hk => by rw [wL_len]; exact (rep_pow hx hE hk).1.len
 repeat (first | (refine TL.isAsg ?_; refine TL.pure rfl rfl ?_) | refine TL.nil ?_ | refine thenQ_normal ?_ | refine T.seq ?_ | refine T.region ?_ | refine T.block ?_ | (refine TL.isStore ?_; (refine TL.storeWh rfl rfl yB (by exact rfl) (by exact rfl) (by exact rfl) ?_; intro w' hu hbk hsz)) | (refine TL.isBox ?_; (refine TL.boxA rfl rfl ?_; intro bk w' hg hbk hsz hsz')) | (refine TL.isAlloc ?_; (refine TL.alloc rfl rfl ?_; intro bk w' hg hbk hsz hsz')) | refine TL.buildArr rfl rfl rfl ?_)
 rename_i b1 w1 gg1 k1 s1 t1 b2 w2 gg2 k2 s2 t2 b4 w4 gg4 k4 s4 t4 w5 k5 s5
 have m1 : Blk w' b1 75 (wL xs) := by exact yB
 have m2 : Blk w' b2 23 (numL E) := by exact yB
 have m4 : Blk w' b4 75 [I1 0, I1 0, I1 0, I1 0, I1 0, I1 0, I1 0, I1 0, I1 0, I1 0] := by exact yB
 have m5 : Blk w' bk 75 (wL (stW xs E 0)) := by unfold stW wL; exact hbk
 have := gg1.2
 have := gg2.2
 have := gg4.2
 have := hg.2
 have hw4 : w.heap.size ≤ b4 := by omega
 have hw5 : w.heap.size ≤ bk := by omega
 have ne1 : b1 ≠ bk := by omega
 have ne2 : b2 ≠ bk := by omega
 have ne4 : b4 ≠ bk := by omega
 have hG : Grow w w' := by exact yG
 refine T.loop (S := Nat) (fun r => [(6, .int .i64 ((r : Int) - 1)), (2, .pointer (some ⟨b1, 0, none⟩)), (3, .pointer (some ⟨b2, 0, none⟩)), (4, .pointer (some ⟨b4, 0, none⟩)), (5, .pointer (some ⟨bk, 0, none⟩))])
  (fun r v => r ≤ 256 ∧ Blk v b1 75 (wL xs) ∧ Blk v b2 23 (numL E) ∧ Blk v b4 75 [I1 0, I1 0, I1 0, I1 0, I1 0, I1 0, I1 0, I1 0, I1 0, I1 0] ∧ Blk v bk 75 (wL (stW xs E (256 - r))) ∧ Grow w v) (fun r => r) 256 ⟨rfl, rfl, rfl, rfl, rfl, trivial⟩
  ⟨by omega, m1, m2, m4, by rw [Nat.sub_self]; exact m5, hG⟩ ?_
 clear m1 m2 m4 m5 hG k1 k2 k4 k5 hbk gg1 gg2 gg4 hg s1 t1 s2 t2 s4 t4 s5 hsz hsz' hu
 rintro r v ⟨hr, m1, m2, m4, m5, hG⟩
 have n1 := m1.lt
 have n2 := m2.lt
 have n4 := m4.lt
 have n5 := m5.lt
 rcases Nat.eq_zero_or_pos r with h0 | h0
 ·subst h0
  refine T.weaken (e' := [(6, .int .i64 (-1)), (2, _), (3, _), (4, _), (5, _)]) ?_ ⟨rfl, rfl, rfl, rfl, rfl, trivial⟩
  have l5 := ls 256 (by omega)
  repeat (first | (refine TL.isMove ?_; refine TL.pure rfl rfl ?_) | refine TL.nil ?_ | refine thenQ_normal ?_ | refine T.seq ?_ | refine T.region ?_ | (refine TL.isBin ?_; refine TL.pureF rfl yD rfl ?_) | refine T.cond_false rfl ?_ | refine T.ret ?_ | refine T.exit ?_ | refine thenQ_exit ?_ | refine blockQ_hit ?_ | refine loopQ_exit ?_ | (refine TL.isLoad ?_; refine TL.loadW rfl yB (by rw [l5]; rfl) rfl ?_) | (refine TL.isStore ?_; refine TL.storeWh rfl rfl yB (by rw [l5]; rfl) (by exact rfl) (wL_one _) ?_; intro w' hu hbk hsz))
  exact retC rfl (load_whole (by assumption) (by rw [l5]; rfl)) ⟨_, rfl, rfl, yG⟩
 ·obtain ⟨i, rfl⟩ : ∃ i, r = i + 1 := ⟨r - 1, by omega⟩
  have hi : i < 256 := by omega
  refine T.weaken (e' := [(6, .int .i64 (i : Int)), (2, _), (3, _), (4, _), (5, _)]) ?_ ⟨congrArg some (congrArg (Value.int .i64) (by omega)), rfl, rfl, rfl, rfl, trivial⟩
  have l5 := ls (256 - (i + 1)) (by omega)
  have hbb := byte_bit E i
  have hst := stW_succ xs E (256 - (i + 1))
  rw [show 256 - (i + 1) + 1 = 256 - i by omega, show 255 - (256 - (i + 1)) = i by omega] at hst
  have hg1 := (rep_pow hx hE (show 256 - (i + 1) ≤ 256 by omega)).1
  have hgt := times_good hg1 hg1
  have l6 : (wL (timesW (stW xs E (256 - (i + 1))) (stW xs E (256 - (i + 1))))).length = 10 := by rw [wL_len]; exact hgt.len
  have l7 : (wL (timesW (timesW (stW xs E (256 - (i + 1))) (stW xs E (256 - (i + 1)))) xs)).length = 10 := by rw [wL_len]; exact (times_good hgt hx.1).len
  generalize stW xs E (256 - (i + 1)) = s at *
  rcases Nat.mod_two_eq_zero_or_one (E / 2 ^ i) with hb | hb
  ·rw [hb] at hbb
   rw [if_neg (by omega)] at hst
   repeat (first | (refine TL.isMove ?_; refine TL.pure rfl rfl ?_) | (refine TL.isAsg ?_; refine TL.pure rfl rfl ?_) | (refine TL.isIndex ?_; refine TL.indexA1 rfl rfl (by omega) rfl ?_) | (refine TL.isSub ?_; refine TL.subI rfl rfl (by omega) (by omega) rfl ?_) | refine TL.nil ?_ | refine thenQ_normal ?_ | refine T.seq ?_ | refine T.region ?_ | refine T.block ?_ | refine blockQ_normal ?_ | (refine TL.isShr ?_; refine TL.shrS rfl rfl (by (simp only [IntKind.bits]; omega)) rfl ?_) | (refine TL.isRem ?_; refine TL.remU rfl rfl (by omega) rfl ?_) | (refine TL.isQuo ?_; refine TL.quoN rfl rfl (by omega) (by omega) rfl ?_) | (refine TL.isBin ?_; first | refine TL.pureT rfl yD rfl ?_ | refine TL.pureF rfl yD rfl ?_) | (refine TL.isConv ?_; refine TL.convU rfl rfl (by omega) rfl ?_) | refine T.cond_true rfl ?_ | refine T.cond_false rfl ?_ | refine T.skip ?_ | (refine TL.isLoad ?_; refine TL.loadW rfl yB (by rw [l5]; rfl) rfl ?_) | (refine TL.isLoad ?_; refine TL.load1 rfl (Blk.cell yB (numL_at (by omega))) rfl ?_) | (refine TL.isFn 78 ?_; refine TL.call rfl (times_w _ _ hg1 hg1 _) rfl ?_; rintro _ _ ⟨rfl, hgc⟩) | (refine TL.isStore ?_; refine TL.storeWh rfl rfl yB (by rw [l6]; rfl) (by rw [l5]; rfl) (wL_one _) ?_; intro w' hu hbk hsz))
   rw [← hst] at hbk
   exact loopQ_normal i ⟨rfl, rfl, rfl, rfl, rfl, trivial⟩ ⟨by omega, yB, yB, yB, hbk, yG⟩ (by omega)
  ·rw [hb] at hbb
   rw [if_pos hb] at hst
   repeat (first | (refine TL.isMove ?_; refine TL.pure rfl rfl ?_) | refine TL.nil ?_ | refine thenQ_normal ?_ | refine T.seq ?_ | refine T.region ?_ | refine T.block ?_ | (refine TL.isBin ?_; refine TL.pureT rfl yD rfl ?_) | refine T.cond_true rfl ?_ | refine T.skip ?_ | (refine TL.isLoad ?_; refine TL.loadW rfl yB (by (rw [l5]; rfl)) rfl ?_))
   refine TL.call rfl (times_w _ _ hg1 hg1 _) rfl ?_
   rintro _ v1 ⟨rfl, hc1⟩
   repeat (first | (refine TL.isMove ?_; refine TL.pure rfl rfl ?_) | (refine TL.isIndex ?_; refine TL.indexA1 rfl rfl (by omega) rfl ?_) | refine TL.nil ?_ | refine thenQ_normal ?_ | refine T.seq ?_ | refine T.region ?_ | (refine TL.isShr ?_; refine TL.shrS rfl rfl (by (simp only [IntKind.bits]; omega)) rfl ?_) | (refine TL.isRem ?_; refine TL.remU rfl rfl (by omega) rfl ?_) | (refine TL.isQuo ?_; refine TL.quoN rfl rfl (by omega) (by omega) rfl ?_) | (refine TL.isBin ?_; refine TL.pureT rfl yD rfl ?_) | (refine TL.isConv ?_; refine TL.convU rfl rfl (by omega) rfl ?_) | refine T.cond_true rfl ?_ | (refine TL.isStore ?_; refine TL.storeWh rfl rfl yB (by rw [l6]; rfl) (by rw [l5]; rfl) (wL_one _) ?_; intro w' hu hbk hsz) | (refine TL.isLoad ?_; first | refine TL.loadW rfl yB (by first | (rw [lx]; rfl) | (rw [l6]; rfl)) rfl ?_ | refine TL.load1 rfl (Blk.cell yB (numL_at (by omega))) rfl ?_))
   refine TL.call rfl (times_w _ _ hgt hx.1 _) rfl ?_
   rintro _ v2 ⟨rfl, hc2⟩
   repeat (first | (refine TL.isMove ?_; refine TL.pure rfl rfl ?_) | (refine TL.isAsg ?_; refine TL.pure rfl rfl ?_) | (refine TL.isSub ?_; refine TL.subI rfl rfl (by omega) (by omega) rfl ?_) | refine TL.nil ?_ | refine thenQ_normal ?_ | refine T.region ?_ | refine blockQ_normal ?_ | (refine TL.isStore ?_; refine TL.storeWh rfl rfl yB (by rw [l7]; rfl) (by rw [l6]; rfl) (wL_one _) ?_; intro w' hu hbk hsz))
   rw [← hst] at hbk
   exact loopQ_normal i ⟨rfl, rfl, rfl, rfl, rfl, trivial⟩ ⟨by omega, yB, yB, yB, hbk, yG⟩ (by omega)
theorem pow_r (N E : Nat) (hN : N < 115792089237316195423570985008687907853269984665640564039457584007913129639936) (hE : E < 115792089237316195423570985008687907853269984665640564039457584007913129639936) (w : World) :
  Calls Try.prog 36 #[num N, num E] w (Ret fun v w' => v = num (pw N E) ∧ Grow w w') := by
 refine V.calls (args := [_, _]) Try.func36 rfl Try.ntmps36 rfl rfl ?_
 have rN := rep_opn hN
 have rP := rep_pow rN hE (Nat.le_refl 256)
 rw [Nat.sub_self, Nat.pow_zero, Nat.div_one] at rP
 have hc := close_r rP
 rw [← pw_def] at hc
 repeat (first | refine TL.nil ?_ | refine thenQ_normal ?_ | refine T.seq ?_ | refine T.region ?_ | (refine TL.isBox ?_; (refine TL.boxA rfl rfl ?_; intro bk w' hg hbk hsz hsz')) | (refine TL.isAlloc ?_; (refine TL.alloc rfl rfl ?_; intro bk w' hg hbk hsz hsz')))
 apply T.any 5 [is _, is _, is _, is _, is _]; (· kernel_rfl); (· ((repeat' (first | exact allDo_end | refine allDo_cons ?_ ?_)); (iterate 5 (· ((refine does_mk0 rfl rfl rfl ?_); ( intro wq _ _ hgq; (repeat (refine need_cons rfl rfl ?_; intro vq hvq; try (obtain rfl := hvq))); (refine need_nil ?_)); (repeat (first | (refine TL.isLoad ?_; refine TL.loadW rfl yB (by exact rfl) rfl ?_) | refine TL.nil ?_ | (refine TL.isFn 75 ?_; refine TL.call rfl (opn_w _ _) rfl ?_; rintro _ _ ⟨rfl, hgc⟩) | (refine TL.isFn 79 ?_; refine TL.call rfl (power_w _ N E rN hE _) rfl ?_; rintro _ _ ⟨rfl, hgc⟩) | (refine TL.isFn 74 ?_; refine TL.call rfl (hc _) rfl ?_; rintro _ _ ⟨rfl, hgc⟩))); exact one_end rfl yG rfl))))); (rintro _ _ _ hgr _ _; (repeat (refine need_cons rfl rfl ?_; intro vq hvq; try (obtain rfl := hvq))); (refine need_nil ?_))
 repeat (first | refine TL.nil ?_ | refine thenQ_normal ?_ | (refine TL.isStore ?_; (refine TL.storeWh rfl rfl yB (by exact rfl) (by exact rfl) (by exact rfl) ?_; intro w' hu hbk hsz)) | refine T.ret ?_)
 exact retC rfl (load_whole (by assumption) rfl) ⟨_, rfl, rfl, yG⟩
end Go.Proofs.Ytmpjigghgedjbaa
namespace Go.Proofs.Ytmpjigghgedjbaa
open Go Go.RowKit Go.V
def mixB (A B : Nat → Nat) (i : Nat) : List Value := (List.range 32).map fun j => if j < i then B1 (B j) else B1 (A j)
theorem mixB_len (A B : Nat → Nat) (i : Nat) : (mixB A B i).length = 32 := by unfold mixB; simp
theorem mixB_at (A B : Nat → Nat) (i : Nat) {j : Nat} (hj : j < 32) : (mixB A B i)[j]? = some (if j < i then B1 (B j) else B1 (A j)) := by
 unfold mixB; rw [List.getElem?_map, List.getElem?_range hj]; rfl
theorem mixB_here (A B : Nat → Nat) {i : Nat} (hi : i < 32) : (mixB A B i)[i]? = some (B1 (A i)) := by rw [mixB_at _ _ _ hi, if_neg (by omega)]
theorem mixB_next (A B : Nat → Nat) (i : Nat) (hi : i + 1 < 32) : (mixB A B i)[i + 1]? = some (B1 (A (i + 1))) := by rw [mixB_at _ _ _ hi, if_neg (by omega)]
theorem mixB_set (A B : Nat → Nat) {i x : Nat} (hi : i < 32) (hx : x = B i) : (mixB A B i).set i (B1 x) = mixB A B (i + 1) := by
 refine List.ext_getElem? fun j => ?_
 rw [List.getElem?_set]
 rcases Nat.lt_or_ge j 32 with hj | hj
 ·by_cases h : i = j
  ·subst h; rw [if_pos rfl, if_pos (by rw [mixB_len]; exact hi), mixB_at _ _ _ hj, if_pos (by omega), hx]
  ·rw [if_neg h, mixB_at _ _ _ hj, mixB_at _ _ _ hj]
   by_cases h2 : j < i
   ·rw [if_pos h2, if_pos (by omega)]
   ·rw [if_neg h2, if_neg (by omega)]
 ·rw [if_neg (by omega), List.getElem?_eq_none (by rw [mixB_len]; exact hj), List.getElem?_eq_none (by rw [mixB_len]; exact hj)]
theorem mixS_here (A B : Nat → Nat) {i x : Nat} (hi : i < 32) : ((mixB A B i).set i (B1 x))[i]? = some (B1 x) := by rw [List.getElem?_set, if_pos rfl, if_pos (by rw [mixB_len]; exact hi)]
theorem mixS_next (A B : Nat → Nat) {i x : Nat} (hi : i + 1 < 32) : ((mixB A B i).set i (B1 x))[i + 1]? = some (B1 (A (i + 1))) := by rw [List.getElem?_set, if_neg (by omega), mixB_next _ _ _ hi]
theorem mixB_0 {A B : Nat → Nat} {N : Nat} (h : ∀ i, i < 32 → A i = byteN N i) : mixB A B 0 = numL N := numL_ext (mixB_len _ _ _) fun i hi => by rw [mixB_at _ _ _ hi, if_neg (by omega), h i hi]
theorem mixB_32 {A B : Nat → Nat} {N : Nat} (h : ∀ i, i < 32 → B i = byteN N i) : mixB A B 32 = numL N := numL_ext (mixB_len _ _ _) fun i hi => by rw [mixB_at _ _ _ hi, if_pos hi, h i hi]
theorem byteN_0 (i : Nat) : byteN 0 i = 0 := by unfold byteN; rw [Nat.zero_div]
theorem byte_high {n i : Nat} (hn : n < 18446744073709551616) (hi : 8 ≤ i) : byteN n i = 0 := by
 unfold byteN
 have : 256 ^ 8 ≤ 256 ^ i := Nat.pow_le_pow_right (by decide) hi
 rw [Nat.div_eq_of_lt (by have : (256 : Nat) ^ 8 = 18446744073709551616 := by decide
                          omega)]
theorem byte_shift (n i : Nat) : n / 2 ^ (8 * i) % 256 = byteN n i := by unfold byteN; rw [two_256]
attribute [irreducible] mixB
theorem of_r (n : Nat) (hn : n < 18446744073709551616) (w : World) :
  Calls Try.prog 29 #[W1 n] w (Ret fun v w' => v = num n ∧ Grow w w') := by
 refine V.calls (args := [_]) Try.func29 rfl Try.ntmps29 rfl rfl ?_
 repeat (first | (refine TL.isAsg ?_; refine TL.pure rfl rfl ?_) | refine TL.nil ?_ | refine thenQ_normal ?_ | refine T.seq ?_ | refine T.region ?_ | refine T.block ?_ | (refine TL.isAlloc ?_; (refine TL.alloc rfl rfl ?_; intro bk w' hg hbk hsz hsz')))
 rename_i b1 w1 gg1 k1 s1 t1
 have m1 : Blk w' b1 23 (numL 0) := by exact yB
 have m2 : Blk w' bk 23 (mixB (fun _ => 0) (byteN n) 0) := by rw [mixB_0 (N := 0) (fun i _ => (byteN_0 i).symm)]; exact hbk
 have hw1 : w.heap.size ≤ b1 := by omega
 have hw2 : w.heap.size ≤ bk := by omega
 have ne : b1 ≠ bk := by omega
 have hG : Grow w w' := by exact yG
 refine T.loop (S := Nat) (fun i => [(4, .int .i64 (i : Int)), (0, W1 n), (2, .pointer (some ⟨b1, 0, none⟩)), (3, .pointer (some ⟨bk, 0, none⟩))])
  (fun i v => i ≤ 8 ∧ Blk v b1 23 (numL 0) ∧ Blk v bk 23 (mixB (fun _ => 0) (byteN n) i) ∧ Grow w v) (fun i => 8 - i) 0 ⟨rfl, rfl, rfl, rfl, trivial⟩
  ⟨by omega, m1, m2, hG⟩ ?_
 clear m1 m2 hG hbk k1 gg1 hg s1 t1 hsz hsz'
 rintro i v ⟨hi, m1, m2, hG⟩
 have n1 := m1.lt
 have n2 := m2.lt
 rcases Nat.lt_or_ge i 8 with hlt | hge
 ·repeat (first | (refine TL.isMove ?_; refine TL.pure rfl rfl ?_) | (refine TL.isIndex ?_; refine TL.indexA1 rfl rfl (by omega) rfl ?_) | (refine TL.isMul ?_; refine TL.mulN rfl rfl (by omega) rfl ?_) | refine TL.nil ?_ | refine thenQ_normal ?_ | refine T.seq ?_ | refine T.region ?_ | refine T.block ?_ | (refine TL.isShr ?_; refine TL.shrS rfl rfl (by (simp only [IntKind.bits]; omega)) rfl ?_) | (refine TL.isBin ?_; refine TL.pureT rfl yD rfl ?_) | (refine TL.isConv ?_; first | refine TL.convU rfl rfl (by omega) rfl ?_ | refine TL.convW rfl rfl rfl ?_) | refine T.cond_true rfl ?_ | refine T.skip ?_)
  refine TL.storeS rfl rfl yB (by exact rfl) (by rw [mixB_len]; omega) ?_
  intro w3 hu3 hbk3 hsz3
  rw [mixB_set _ _ (by omega) (byte_shift n i)] at hbk3
  repeat (first | (refine TL.isMove ?_; refine TL.pure rfl rfl ?_) | (refine TL.isAsg ?_; refine TL.pure rfl rfl ?_) | (refine TL.isAdd ?_; refine TL.addN rfl rfl (by omega) rfl ?_) | refine TL.nil ?_ | refine thenQ_normal ?_ | refine T.region ?_ | refine blockQ_normal ?_)
  exact loopQ_normal (i + 1) ⟨rfl, rfl, rfl, rfl, trivial⟩ ⟨by omega, yB, hbk3, yG⟩ (by omega)
 ·obtain rfl : i = 8 := by omega
  have e : mixB (fun _ => 0) (byteN n) 8 = numL n := numL_ext (mixB_len _ _ _) fun i hi => by
   rw [mixB_at _ _ _ hi]
   by_cases h : i < 8
   ·rw [if_pos h]
   ·rw [if_neg h, byte_high hn (by omega)]
  rw [e] at m2
  repeat (first | (refine TL.isMove ?_; refine TL.pure rfl rfl ?_) | (refine TL.isLoad ?_; refine TL.loadW rfl yB (by exact rfl) rfl ?_) | refine TL.nil ?_ | refine thenQ_normal ?_ | refine T.seq ?_ | refine T.region ?_ | (refine TL.isBin ?_; refine TL.pureF rfl yD rfl ?_) | (refine TL.isStore ?_; (refine TL.storeWh rfl rfl yB (by exact rfl) (by exact rfl) (by exact rfl) ?_; intro w' hu hbk hsz)) | refine T.cond_false rfl ?_ | refine T.ret ?_ | refine T.exit ?_ | refine thenQ_exit ?_ | refine blockQ_hit ?_ | refine loopQ_exit ?_)
  exact retC rfl (load_whole (by assumption) rfl) ⟨_, rfl, rfl, yG⟩
theorem p_bytes5 : ∀ i, i < 32 → byteN (p25519 - 5) i = if i = 0 then 232 else if i = 31 then 127 else 255 := by decide +kernel
theorem p_bytes2 : ∀ i, i < 32 → byteN (p25519 - 2) i = if i = 0 then 235 else if i = 31 then 127 else 255 := by decide +kernel
theorem p_bytes1 : ∀ i, i < 32 → byteN (p25519 - 1) i = if i = 0 then 236 else if i = 31 then 127 else 255 := by decide +kernel
theorem p_set {n : Nat} (h : ∀ i, i < 32 → byteN (p25519 - n) i = if i = 0 then 237 - n else if i = 31 then 127 else 255) (A : Nat → Nat) :
  ((mixB A (fun _ => 255) 32).set 0 (B1 (237 - n))).set 31 (B1 127) = numL (p25519 - n) := by
 refine numL_ext (by simp [mixB_len]) fun i hi => ?_
 rw [h i hi, List.getElem?_set, List.getElem?_set]
 by_cases h1 : 31 = i
 ·subst h1; rw [if_pos rfl, if_pos (by simp [mixB_len]), if_neg (by omega), if_pos rfl]
 ·rw [if_neg h1]
  by_cases h0 : 0 = i
  ·subst h0; rw [if_pos rfl, if_pos (by rw [mixB_len]; omega), if_pos rfl]
  ·rw [if_neg h0, mixB_at _ _ _ hi, if_pos hi, if_neg (by omega), if_neg (by omega)]
theorem half_byte {M : Nat} (i : Nat) : byteN (M / 2) i = byteN M i / 2 + 128 * (byteN M (i + 1) % 2) := by
 unfold byteN
 rw [Nat.div_div_eq_div_mul, Nat.mul_comm, ← Nat.div_div_eq_div_mul, Nat.pow_succ, ← Nat.div_div_eq_div_mul]
 omega
theorem byte_top {M : Nat} (h : M < 115792089237316195423570985008687907853269984665640564039457584007913129639936) : byteN M 32 = 0 := by
 have : M / 115792089237316195423570985008687907853269984665640564039457584007913129639936 % 256 = 0 := by omega
 exact this
def halves (M : Nat) : Nat → Nat
 | 0 => M
 | k + 1 => halves M k / 2
theorem halves_lt {M : Nat} (h : M < 115792089237316195423570985008687907853269984665640564039457584007913129639936) : ∀ k, halves M k < 115792089237316195423570985008687907853269984665640564039457584007913129639936
 | 0 => h
 | k + 1 => by unfold halves; have := halves_lt h k; omega
theorem shifted_r (n k : Nat) (hk : k ≤ 3) (hn : n < 100) (hp : ∀ i, i < 32 → byteN (p25519 - n) i = if i = 0 then 237 - n else if i = 31 then 127 else 255) (w : World) :
  Calls Try.prog 73 #[.int .i64 (n : Int), .int .i64 (k : Int)] w (Ret fun v w' => v = num (halves (p25519 - n) k) ∧ Grow w w') := by
 refine V.calls (args := [_, _]) Try.func73 rfl Try.ntmps73 rfl rfl ?_
 have hbig : p25519 - n < 115792089237316195423570985008687907853269984665640564039457584007913129639936 := by unfold p25519; omega
 repeat (first | (refine TL.isAsg ?_; refine TL.pure rfl rfl ?_) | refine TL.nil ?_ | refine thenQ_normal ?_ | refine T.seq ?_ | refine T.region ?_ | refine T.block ?_ | (refine TL.isAlloc ?_; (refine TL.alloc rfl rfl ?_; intro bk w' hg hbk hsz hsz')))
 rename_i b1 w1 gg1 k1 s1 t1
 have m1 : Blk w' b1 23 (numL 0) := by exact yB
 have m2 : Blk w' bk 23 (mixB (fun _ => 0) (fun _ => 255) 0) := by rw [mixB_0 (N := 0) (fun i _ => (byteN_0 i).symm)]; exact hbk
 have hw1 : w.heap.size ≤ b1 := by omega
 have hw2 : w.heap.size ≤ bk := by omega
 have ne : b1 ≠ bk := by omega
 have hG : Grow w w' := by exact yG
 refine T.loop (S := Nat) (fun i => [(6, .int .i64 (i : Int)), (0, .int .i64 (n : Int)), (1, .int .i64 (k : Int)), (4, .pointer (some ⟨b1, 0, none⟩)), (5, .pointer (some ⟨bk, 0, none⟩))])
  (fun i v => i ≤ 32 ∧ Blk v b1 23 (numL 0) ∧ Blk v bk 23 (mixB (fun _ => 0) (fun _ => 255) i) ∧ Grow w v) (fun i => 32 - i) 0 ⟨rfl, rfl, rfl, rfl, rfl, trivial⟩
  ⟨by omega, m1, m2, hG⟩ ?_
 clear m1 m2 hG hbk k1 gg1 hg s1 t1 hsz hsz'
 rintro i v ⟨hi, m1, m2, hG⟩
 have n1 := m1.lt
 have n2 := m2.lt
 rcases Nat.lt_or_ge i 32 with hlt | hge
 ·repeat (first | (refine TL.isMove ?_; refine TL.pure rfl rfl ?_) | (refine TL.isIndex ?_; refine TL.indexA1 rfl rfl (by omega) rfl ?_) | refine TL.nil ?_ | refine thenQ_normal ?_ | refine T.seq ?_ | refine T.region ?_ | refine T.block ?_ | (refine TL.isBin ?_; refine TL.pureT rfl yD rfl ?_) | refine T.cond_true rfl ?_ | refine T.skip ?_)
  refine TL.storeS rfl rfl yB (by exact rfl) (by rw [mixB_len]; omega) ?_
  intro w3 hu3 hbk3 hsz3
  rw [show Value.int .u8 255 = B1 255 from rfl, mixB_set _ _ (by omega) rfl] at hbk3
  repeat (first | (refine TL.isMove ?_; refine TL.pure rfl rfl ?_) | (refine TL.isAsg ?_; refine TL.pure rfl rfl ?_) | (refine TL.isAdd ?_; refine TL.addN rfl rfl (by omega) rfl ?_) | refine TL.nil ?_ | refine thenQ_normal ?_ | refine T.region ?_ | refine blockQ_normal ?_)
  exact loopQ_normal (i + 1) ⟨rfl, rfl, rfl, rfl, rfl, trivial⟩ ⟨by omega, yB, hbk3, yG⟩ (by omega)
 obtain rfl : i = 32 := by omega
 repeat (first | (refine TL.isMove ?_; refine TL.pure rfl rfl ?_) | (refine TL.isIndex ?_; refine TL.indexA1 rfl rfl (by omega) rfl ?_) | (refine TL.isSub ?_; refine TL.subN rfl rfl (by omega) (by omega) rfl ?_) | refine TL.nil ?_ | refine thenQ_normal ?_ | refine T.seq ?_ | refine T.region ?_ | (refine TL.isBin ?_; refine TL.pureF rfl yD rfl ?_) | (refine TL.isConv ?_; refine TL.convU rfl rfl (by omega) rfl ?_) | refine T.cond_false rfl ?_ | refine T.exit ?_ | refine thenQ_exit ?_ | refine blockQ_hit ?_ | refine loopQ_exit ?_)
 refine TL.storeS rfl rfl yB (by exact rfl) (by rw [mixB_len]; omega) ?_
 intro w3 hu3 hbk3 hsz3
 repeat ((refine TL.isIndex ?_; refine TL.indexA1 rfl rfl (by omega) rfl ?_))
 refine TL.storeS rfl rfl yB (by exact rfl) (by rw [List.length_set, mixB_len]; omega) ?_
 intro w4 hu4 hbk4 hsz4
 have m3 : Blk w4 bk 23 (numL (halves (p25519 - n) (k - k))) := by
  rw [Nat.sub_self]
  show Blk w4 bk _ (numL (p25519 - n))
  rw [← p_set hp (fun _ => 0)]
  exact hbk4
 have m1' : Blk w4 b1 23 (numL 0) := by exact yB
 have hG4 : Grow w w4 := by exact yG
 clear hbk3 hbk4 m1 m2 hu3 hu4 hG n1 n2 hsz3 hsz4 hi hge
 repeat (first | refine TL.nil ?_ | refine thenQ_normal ?_ | refine T.seq ?_ | refine T.block ?_)
 refine T.loop (S := Nat) (fun m => [(1, .int .i64 (m : Int)), (4, .pointer (some ⟨b1, 0, none⟩)), (5, .pointer (some ⟨bk, 0, none⟩))])
  (fun m v => m ≤ k ∧ Blk v b1 23 (numL 0) ∧ Blk v bk 23 (numL (halves (p25519 - n) (k - m))) ∧ Grow w v) (fun m => m) k ⟨rfl, rfl, rfl, trivial⟩
  ⟨by omega, m1', m3, hG4⟩ ?_
 clear m1' m3 hG4 v w3 w4
 rintro m v ⟨hm, m1, m2, hG⟩
 have n1 := m1.lt
 have n2 := m2.lt
 rcases Nat.eq_zero_or_pos m with h0 | h0
 ·subst h0
  repeat (first | (refine TL.isMove ?_; refine TL.pure rfl rfl ?_) | (refine TL.isLoad ?_; refine TL.loadW rfl yB (by exact rfl) rfl ?_) | refine TL.nil ?_ | refine thenQ_normal ?_ | refine T.seq ?_ | refine T.region ?_ | (refine TL.isBin ?_; refine TL.pureF rfl yD rfl ?_) | (refine TL.isStore ?_; (refine TL.storeWh rfl rfl yB (by exact rfl) (by exact rfl) (by exact rfl) ?_; intro w' hu hbk hsz)) | refine T.cond_false rfl ?_ | refine T.ret ?_ | refine T.exit ?_ | refine thenQ_exit ?_ | refine blockQ_hit ?_ | refine loopQ_exit ?_)
  exact retC rfl (load_whole (by assumption) rfl) ⟨_, rfl, rfl, yG⟩
 have hHlt := halves_lt hbig (k - m)
 have hsucc : halves (p25519 - n) (k - (m - 1)) = halves (p25519 - n) (k - m) / 2 := by
  rw [show k - (m - 1) = (k - m) + 1 by omega, halves]
 generalize halves (p25519 - n) (k - m) = H at *
 repeat (first | (refine TL.isMove ?_; refine TL.pure rfl rfl ?_) | (refine TL.isAsg ?_; refine TL.pure rfl rfl ?_) | refine TL.nil ?_ | refine thenQ_normal ?_ | refine T.seq ?_ | refine T.region ?_ | refine T.block ?_ | (refine TL.isBin ?_; refine TL.pureT rfl yD rfl ?_) | refine T.cond_true rfl ?_ | refine T.skip ?_)
 refine T.loop (S := Nat) (fun j => [(7, .int .i64 (j : Int)), (1, .int .i64 (m : Int)), (4, .pointer (some ⟨b1, 0, none⟩)), (5, .pointer (some ⟨bk, 0, none⟩))])
  (fun j v => j ≤ 32 ∧ Blk v b1 23 (numL 0) ∧ Blk v bk 23 (mixB (byteN H) (byteN (H / 2)) j) ∧ Grow w v) (fun j => 32 - j) 0 ⟨rfl, rfl, rfl, rfl, trivial⟩
  ⟨by omega, m1, by rw [mixB_0 (fun _ _ => rfl)]; exact m2, hG⟩ ?_
 clear m1 m2 hG v n1 n2
 rintro j v ⟨hj, m1, m2, hG⟩
 have n1 := m1.lt
 have n2 := m2.lt
 rcases Nat.lt_or_ge j 32 with hlt | hge
 ·have hbj := byteN_lt H j
  have hh := half_byte (M := H) j
  have l1 : (mixB (byteN H) (byteN (H / 2)) j)[j]? = some (B1 (byteN H j)) := mixB_here _ _ hlt
  have l2 : ((mixB (byteN H) (byteN (H / 2)) j).set j (B1 (byteN H j / 2)))[j]? = some (B1 (byteN H j / 2)) := mixS_here _ _ hlt
  have fin : ∀ v' x, x = byteN (H / 2) j → Blk v' bk 23 ((mixB (byteN H) (byteN (H / 2)) j).set j (B1 x)) → Blk v' bk 23 (mixB (byteN H) (byteN (H / 2)) (j + 1)) := by
   intro v' x hx hb
   rw [mixB_set _ _ hlt hx] at hb
   exact hb
  repeat (first | (refine TL.isMove ?_; refine TL.pure rfl rfl ?_) | (refine TL.isIndex ?_; refine TL.indexA1 rfl rfl (by omega) rfl ?_) | refine TL.nil ?_ | refine thenQ_normal ?_ | refine T.seq ?_ | refine T.region ?_ | refine T.block ?_ | (refine TL.isQuo ?_; refine TL.quoU rfl rfl rfl (by omega) (by omega) rfl ?_) | (refine TL.isBin ?_; refine TL.pureT rfl yD rfl ?_) | refine T.cond_true rfl ?_ | refine T.skip ?_ | (refine TL.isLoad ?_; refine TL.load1 rfl (Blk.cell yB l1) rfl ?_))
  refine TL.storeS rfl rfl yB (by exact rfl) (by rw [mixB_len]; omega) ?_
  intro w3 hu3 hbk3 hsz3
  have m13 : Blk w3 b1 23 (numL 0) := by exact yB
  have hG3 : Grow w w3 := by exact yG
  have n13 := m13.lt
  have n23 := hbk3.lt
  rcases Nat.lt_or_ge j 31 with h31 | h31
  ·have l3 : ((mixB (byteN H) (byteN (H / 2)) j).set j (B1 (byteN H j / 2)))[j + 1]? = some (B1 (byteN H (j + 1))) := mixS_next _ _ (by omega)
   rcases Nat.mod_two_eq_zero_or_one (byteN H (j + 1)) with hb | hb
   ·repeat (first | refine TL.guard_run rfl rfl rfl ?_ | (refine TL.isMove ?_; refine TL.pure rfl rfl ?_) | (refine TL.isAsg ?_; refine TL.pure rfl rfl ?_) | (refine TL.isIndex ?_; refine TL.indexA1 rfl rfl (by omega) rfl ?_) | (refine TL.isAdd ?_; refine TL.addN rfl rfl (by omega) rfl ?_) | refine TL.nil ?_ | refine thenQ_normal ?_ | refine T.seq ?_ | refine T.region ?_ | refine blockQ_normal ?_ | (refine TL.isRem ?_; refine TL.remU rfl rfl (by omega) rfl ?_) | (refine TL.isBin ?_; first | refine TL.pureT rfl yD rfl ?_ | refine TL.pureF rfl yD rfl ?_) | refine T.cond_false rfl ?_ | refine T.skip ?_ | refine TL.pure rfl rfl ?_ | (refine TL.isLoad ?_; refine TL.load1 rfl (Blk.cell yB l3) rfl ?_))
    exact loopQ_normal (j + 1) ⟨rfl, rfl, rfl, rfl, trivial⟩ ⟨by omega, yB, fin _ _ (by omega) hbk3, yG⟩ (by omega)
   ·repeat (first | refine TL.guard_run rfl rfl rfl ?_ | (refine TL.isMove ?_; refine TL.pure rfl rfl ?_) | (refine TL.isIndex ?_; refine TL.indexA1 rfl rfl (by omega) rfl ?_) | (refine TL.isAdd ?_; first | refine TL.addN rfl rfl (by omega) rfl ?_ | refine TL.addU rfl rfl rfl (by omega) rfl ?_) | refine TL.nil ?_ | refine thenQ_normal ?_ | refine T.seq ?_ | refine T.region ?_ | (refine TL.isRem ?_; refine TL.remU rfl rfl (by omega) rfl ?_) | (refine TL.isBin ?_; refine TL.pureT rfl yD rfl ?_) | refine T.cond_true rfl ?_ | refine TL.pure rfl rfl ?_ | (refine TL.isLoad ?_; first | refine TL.load1 rfl (Blk.cell yB l3) rfl ?_ | refine TL.load1 rfl (Blk.cell yB l2) rfl ?_))
    refine TL.storeS rfl rfl yB (by exact rfl) (by rw [List.length_set, mixB_len]; omega) ?_
    intro w5 hu5 hbk5 hsz5
    rw [List.set_set] at hbk5
    repeat (first | (refine TL.isMove ?_; refine TL.pure rfl rfl ?_) | (refine TL.isAsg ?_; refine TL.pure rfl rfl ?_) | (refine TL.isAdd ?_; refine TL.addN rfl rfl (by omega) rfl ?_) | refine TL.nil ?_ | refine thenQ_normal ?_ | refine T.region ?_ | refine blockQ_normal ?_)
    exact loopQ_normal (j + 1) ⟨rfl, rfl, rfl, rfl, trivial⟩ ⟨by omega, yB, fin _ _ (by omega) hbk5, yG⟩ (by omega)
  ·obtain rfl : j = 31 := by omega
   have h32 : byteN H (31 + 1) = 0 := byte_top hHlt
   repeat (first | refine TL.guard_skip rfl rfl rfl ?_ | (refine TL.isMove ?_; refine TL.pure rfl rfl ?_) | (refine TL.isAsg ?_; refine TL.pure rfl rfl ?_) | (refine TL.isAdd ?_; refine TL.addN rfl rfl (by omega) rfl ?_) | refine TL.nil ?_ | refine thenQ_normal ?_ | refine T.seq ?_ | refine T.region ?_ | refine blockQ_normal ?_ | (refine TL.isBin ?_; refine TL.pureF rfl yD rfl ?_) | refine T.cond_false rfl ?_ | refine T.skip ?_ | refine TL.pure rfl rfl ?_)
   exact loopQ_normal 32 ⟨rfl, rfl, rfl, rfl, trivial⟩ ⟨by omega, yB, fin _ _ (by omega) hbk3, yG⟩ (by omega)
 ·obtain rfl : j = 32 := by omega
  rw [mixB_32 (fun _ _ => rfl), ← hsucc] at m2
  repeat (first | (refine TL.isMove ?_; refine TL.pure rfl rfl ?_) | (refine TL.isAsg ?_; refine TL.pure rfl rfl ?_) | (refine TL.isSub ?_; refine TL.subN rfl rfl (by omega) (by omega) rfl ?_) | refine TL.nil ?_ | refine thenQ_normal ?_ | refine T.seq ?_ | refine T.region ?_ | refine blockQ_normal ?_ | (refine TL.isBin ?_; refine TL.pureF rfl yD rfl ?_) | refine T.cond_false rfl ?_ | refine T.exit ?_ | refine thenQ_exit ?_ | refine blockQ_hit ?_ | refine loopQ_exit ?_)
  exact loopQ_normal (m - 1) ⟨rfl, rfl, rfl, trivial⟩ ⟨by omega, yB, m2, yG⟩ (by omega)
theorem inv_r (N : Nat) (hN : N < 115792089237316195423570985008687907853269984665640564039457584007913129639936) (w : World) :
  Calls Try.prog 37 #[num N] w (Ret fun v w' => v = num (pw N 57896044618658097711785492504343953926634992332820282019728792003956564819947) ∧ Grow w w') := by
 refine V.calls (args := [_]) Try.func37 rfl Try.ntmps37 rfl rfl ?_
 have hs := shifted_r 2 0 (by decide) (by decide) p_bytes2
 rw [show halves (p25519 - 2) 0 = 57896044618658097711785492504343953926634992332820282019728792003956564819947 from by decide +kernel] at hs
 repeat (first | refine TL.nil ?_ | refine thenQ_normal ?_ | refine T.seq ?_ | refine T.region ?_ | (refine TL.isBox ?_; (refine TL.boxA rfl rfl ?_; intro bk w' hg hbk hsz hsz')) | (refine TL.isAlloc ?_; (refine TL.alloc rfl rfl ?_; intro bk w' hg hbk hsz hsz')))
 apply T.any 3 [is _, is _, is _]; (· kernel_rfl); (· ((repeat' (first | exact allDo_end | refine allDo_cons ?_ ?_)); (iterate 3 (· ((refine does_mk0 rfl rfl rfl ?_); ( intro wq _ _ hgq; (repeat (refine need_cons rfl rfl ?_; intro vq hvq; try (obtain rfl := hvq))); (refine need_nil ?_)); (repeat (first | (refine TL.isLoad ?_; refine TL.loadW rfl yB (by exact rfl) rfl ?_) | refine TL.nil ?_ | (refine TL.isFn 73 ?_; refine TL.call rfl (hs _) rfl ?_; rintro _ _ ⟨rfl, hgc⟩) | (refine TL.isFn 36 ?_; refine TL.call rfl (pow_r N _ hN (by decide) _) rfl ?_; rintro _ _ ⟨rfl, hgc⟩))); exact one_end rfl yG rfl))))); (rintro _ _ _ hgr _ _; (repeat (refine need_cons rfl rfl ?_; intro vq hvq; try (obtain rfl := hvq))); (refine need_nil ?_))
 repeat (first | refine TL.nil ?_ | refine thenQ_normal ?_ | (refine TL.isStore ?_; (refine TL.storeWh rfl rfl yB (by exact rfl) (by exact rfl) (by exact rfl) ?_; intro w' hu hbk hsz)) | refine T.ret ?_)
 exact retC rfl (load_whole (by assumption) rfl) ⟨_, rfl, rfl, yG⟩
end Go.Proofs.Ytmpjigghgedjbaa
namespace Go.Proofs.Ytmpjigghgedjbaa
open Go Go.RowKit Go.V Go.N
theorem pw_pm {a e : Nat} (h : e < 115792089237316195423570985008687907853269984665640564039457584007913129639936) : pw a e = pm p25519 256 a e := by rw [pw_def, pm_eq _ _ _ _ h]
theorem pw_at {a e v : Nat} (h : e < 115792089237316195423570985008687907853269984665640564039457584007913129639936) (hv : Nat.beq (pm p25519 256 a e) v = true) : pw a e = v := by rw [pw_pm h]; exact Nat.eq_of_beq_eq_true hv
theorem pw_i : pw 2 14474011154664524427946373126085988481658748083205070504932198000989141204987 = 19681161376707505956807079304988542015446066515923890162744021073123829784752 := pw_at (by decide) (by kernel_rfl)
theorem rootB_of {N a i b : Nat} (ha : rootA N = a) (hi : pw 2 14474011154664524427946373126085988481658748083205070504932198000989141204987 = i) (hb : (if a * a % p25519 % p25519 = N % p25519 then a else a * i % p25519) = b) : rootB N = b := by subst ha; subst hi; exact hb
end Go.Proofs.Ytmpjigghgedjbaa
namespace Go.Proofs.Ytmpjigghgedjbaa
open Go Go.RowKit Go.V Go.N
def ptL (x y : Nat) : List Value := numL x ++ numL y
abbrev pt (P : Pt) : Value := .agg (ptL P.1 P.2).toArray
theorem numL_l32 (N : Nat) : (numL N).length = 32 := rfl
theorem mul_f (N M : Nat) (hN : N < 115792089237316195423570985008687907853269984665640564039457584007913129639936) (hM : M < 115792089237316195423570985008687907853269984665640564039457584007913129639936) (w : World) : Calls Try.prog 21 #[num N, num M] w (Ret fun v w' => v = num (fmul N M) ∧ Grow w w') := by unfold fmul; exact mul_c N M hN hM w
theorem add_f (N M : Nat) (hN : N < 115792089237316195423570985008687907853269984665640564039457584007913129639936) (hM : M < 115792089237316195423570985008687907853269984665640564039457584007913129639936) (w : World) : Calls Try.prog 30 #[num N, num M] w (Ret fun v w' => v = num (fadd N M) ∧ Grow w w') := by unfold fadd; exact add_c N M hN hM w
theorem sub_f (N M : Nat) (hN : N < 115792089237316195423570985008687907853269984665640564039457584007913129639936) (hM : M < 115792089237316195423570985008687907853269984665640564039457584007913129639936) (w : World) : Calls Try.prog 32 #[num N, num M] w (Ret fun v w' => v = num (fsub N M) ∧ Grow w w') := by unfold fsub; exact sub_c N M hN hM w
theorem on_diff (x y : Nat) : Z (((fsub (fmul y y) (fmul x x) : Int) - (fadd 1 (fmul dN (fmul (fmul x x) (fmul y y))) : Nat)) - ((y : Int) * y - x * x - 1 - dI * (x * x) * (y * y))) := by
 have a1 := fmul_Z y y
 have a2 := fmul_Z x x
 have s := fsub_Z (fmul y y) (fmul x x)
 have m := fmul_Z (fmul x x) (fmul y y)
 have m2 := fmul_Z dN (fmul (fmul x x) (fmul y y))
 have r := fadd_Z 1 (fmul dN (fmul (fmul x x) (fmul y y)))
 rw [show ((dN : Nat) : Int) = dI from rfl] at m2
 generalize (fsub (fmul y y) (fmul x x) : Int) = S at *
 generalize ((fadd 1 (fmul dN (fmul (fmul x x) (fmul y y))) : Nat) : Int) = R at *
 generalize ((fmul dN (fmul (fmul x x) (fmul y y)) : Nat) : Int) = M2 at *
 generalize ((fmul (fmul x x) (fmul y y) : Nat) : Int) = M at *
 generalize ((fmul y y : Nat) : Int) = Y at *
 generalize ((fmul x x : Nat) : Int) = X at *
 generalize (x : Int) = u at *
 generalize (y : Int) = v at *
 exact ((((s.sub r).sub m2).sub (m.mul dI)).sub ((a2.mul (dI * Y)).add (a1.mul (dI * (u * u)))) |>.add (a1.sub a2)).eq (by simp; grind)
theorem f_lt (a b : Nat) : fmul a b < p25519 ∧ fadd a b < p25519 ∧ fsub a b < p25519 := by
 unfold fmul fadd fsub
 exact ⟨Nat.mod_lt _ (by decide), Nat.mod_lt _ (by decide), Nat.mod_lt _ (by decide)⟩
theorem on_dec (x y : Nat) : fsub (fmul y y) (fmul x x) = fadd 1 (fmul dN (fmul (fmul x x) (fmul y y))) ↔ On x y := by
 have h := on_diff x y
 unfold On
 constructor
 ·intro e
  rw [e] at h
  exact h.neg.eq (by grind)
 ·intro k
  exact Z.small (f_lt _ _).2.2 (f_lt _ _).2.1 ((h.add k).eq (by grind))
theorem canon_y (N : Nat) (h : N < p25519) (w : World) : Calls Try.prog 24 #[num N] w (Ret fun v w' => v = .bool true ∧ Grow w w') := by
 have := canon_c N (Nat.lt_trans h (by decide)) w
 rwa [decide_eq_true (Nat.mod_eq_of_lt h)] at this
theorem canon_n (N : Nat) (hN : N < 115792089237316195423570985008687907853269984665640564039457584007913129639936) (h : ¬ N < p25519) (w : World) : Calls Try.prog 24 #[num N] w (Ret fun v w' => v = .bool false ∧ Grow w w') := by
 have := canon_c N hN w
 rwa [decide_eq_false (fun e => h (by rw [← e]; exact Nat.mod_lt _ (by decide)))] at this
theorem neg_num (P : Pt) : (p25519 - P.1 % p25519) % p25519 = (negP P).1 := by
 show _ = cn (-(P.1 : Int))
 refine (cn_of (Nat.mod_lt _ (by decide)) ?_).symm
 unfold Z p25519
 omega
end Go.Proofs.Ytmpjigghgedjbaa
