import Derived.Test.YtmpjigghgedjbaaDo
import Derived.Test.YtmpjigghgedjbaaDj
set_option linter.unusedSimpArgs false
set_option linter.unusedVariables false
set_option linter.unusedSectionVars false
set_option maxHeartbeats 16000000
set_option maxRecDepth 100000
namespace Go.Proofs.Ytmpjigghgedjbaa
open Go Go.RowKit Go.V Go.N
theorem bytes5_y (P : Pt) (hP : Val P) (w : World) : Calls Try.prog 56 #[pt P] w (Ret fun v w' => v = .tuple #[num (enc P), .int .i64 0] ∧ Grow w w') := by
 refine V.calls (args := [_]) Try.func56 rfl Try.ntmps56 rfl rfl ?_
 have b1 : P.1 < 115792089237316195423570985008687907853269984665640564039457584007913129639936 := Nat.lt_trans hP.1 (by decide)
 have hy : P.2 < B255 := Nat.lt_trans hP.2.1 p_lt
 have ho := odd_r P.1 b1
 rw [Nat.mod_eq_of_lt hP.1] at ho
 repeat (first | (refine TL.isAsg ?_; refine TL.pure rfl rfl ?_) | (refine TL.isLoad ?_; first | refine TL.loadW rfl yB (by exact rfl) rfl ?_ | refine TL.loadC rfl yB rfl ?_) | refine TL.fieldA0 rfl rfl ?_ | refine TL.nil ?_ | refine thenQ_normal ?_ | refine T.seq ?_ | refine T.region ?_ | (refine TL.isBin ?_; refine TL.pureF rfl yD rfl ?_) | (refine TL.isStore ?_; (refine TL.storeWh rfl rfl yB (by exact rfl) (by exact rfl) (by exact rfl) ?_; intro w' hu hbk hsz)) | (refine TL.isBox ?_; (refine TL.boxA rfl rfl ?_; intro bk w' hg hbk hsz hsz')) | (refine TL.isAlloc ?_; (refine TL.alloc rfl rfl ?_; intro bk w' hg hbk hsz hsz')) | refine T.cond_false rfl ?_ | refine T.skip ?_ | (refine TL.isFn 58 ?_; refine TL.call rfl (check5_y P hP _) rfl ?_; rintro _ _ ⟨rfl, hgc⟩))
 refine TL.call rfl (ho _) rfl ?_
 rintro _ w5 ⟨rfl, hg5⟩
 have hby : byteN P.2 31 < 128 := by rw [byte31 (Nat.lt_trans hy (by decide))]; unfold B255 at hy; omega
 have he : enc P = P.2 + P.1 % 2 * B255 := rfl
 rcases Nat.mod_two_eq_zero_or_one P.1 with hp | hp
 ·rw [decide_eq_false (show ¬ (P.1 % 2 = 1) by omega)]
  rw [hp, Nat.zero_mul, Nat.add_zero] at he
  rw [he]
  repeat (first | (refine TL.isAsg ?_; refine TL.pure rfl rfl ?_) | (refine TL.isLoad ?_; refine TL.loadW rfl yB (by exact rfl) rfl ?_) | refine TL.nil ?_ | refine thenQ_normal ?_ | refine T.seq ?_ | refine T.region ?_ | (refine TL.isStore ?_; (refine TL.storeWh rfl rfl yB (by exact rfl) (by exact rfl) (by exact rfl) ?_; intro w' hu hbk hsz)) | refine T.cond_false rfl ?_ | refine T.ret ?_ | refine T.skip ?_)
  exact retCT rfl (load_whole (by assumption) rfl) rfl ⟨_, rfl, rfl, yG⟩
 ·rw [decide_eq_true hp]
  rw [hp, Nat.one_mul] at he
  rw [he]
  have hbo := bit_in hy
  repeat (first | (refine TL.isLoad ?_; refine TL.load1 rfl (Blk.cell yB (numL_at (N := P.2) (i := 31) (by decide))) rfl ?_) | (refine TL.isAsg ?_; refine TL.pure rfl rfl ?_) | (refine TL.isLoad ?_; refine TL.loadW rfl yB (by exact rfl) rfl ?_) | (refine TL.isIndex ?_; refine TL.indexA1 rfl rfl (by omega) rfl ?_) | (refine TL.isAdd ?_; refine TL.addU rfl rfl rfl (by omega) rfl ?_) | refine TL.nil ?_ | refine thenQ_normal ?_ | refine T.seq ?_ | refine T.region ?_ | (refine TL.isStore ?_; first | (refine TL.store1 rfl rfl yB (by exact rfl) (by exact rfl) (by exact rfl) ?_; intro w' hu hbk hsz) | (refine TL.storeWh rfl rfl yB (by exact rfl) (by exact rfl) (by exact rfl) ?_; intro w' hu hbk hsz)) | refine T.cond_true rfl ?_ | refine T.ret ?_)
  rw [hbo] at hbk
  exact retCT rfl (load_whole (by assumption) rfl) rfl ⟨_, rfl, rfl, yG⟩
theorem bytes5_n (P : Pt) (b1 : P.1 < 115792089237316195423570985008687907853269984665640564039457584007913129639936) (b2 : P.2 < 115792089237316195423570985008687907853269984665640564039457584007913129639936) (hP : ¬ Val P) (w : World) : Calls Try.prog 56 #[pt P] w (Ret fun v w' => v = .tuple #[num 0, .int .i64 2] ∧ Grow w w') := by
 refine V.calls (args := [_]) Try.func56 rfl Try.ntmps56 rfl rfl ?_
 repeat (first | (refine TL.isAsg ?_; refine TL.pure rfl rfl ?_) | (refine TL.isLoad ?_; refine TL.loadW rfl yB (by exact rfl) rfl ?_) | refine TL.nil ?_ | refine thenQ_normal ?_ | refine T.seq ?_ | refine T.region ?_ | (refine TL.isBin ?_; refine TL.pureT rfl yD rfl ?_) | (refine TL.isStore ?_; (refine TL.storeWh rfl rfl yB (by exact rfl) (by exact rfl) (by exact rfl) ?_; intro w' hu hbk hsz)) | (refine TL.isBox ?_; (refine TL.boxA rfl rfl ?_; intro bk w' hg hbk hsz hsz')) | (refine TL.isAlloc ?_; (refine TL.alloc rfl rfl ?_; intro bk w' hg hbk hsz hsz')) | refine TL.buildArr rfl rfl rfl ?_ | refine T.cond_true rfl ?_ | refine T.ret ?_ | refine thenQ_ret ?_ | (refine TL.isFn 58 ?_; refine TL.call rfl (check5_n P b1 b2 hP _) rfl ?_; rintro _ _ ⟨rfl, hgc⟩))
 exact retCT rfl (load_whole (by assumption) rfl) rfl ⟨_, rfl, rfl, yG⟩
theorem read5_c (N : Nat) (hN : N < 115792089237316195423570985008687907853269984665640564039457584007913129639936) (w : World) : Calls Try.prog 57 #[num N] w (Ret fun v w' => v = (match rd N with | some P => .tuple #[pt P, .int .i64 0] | none => .tuple #[pt (0, 0), .int .i64 4]) ∧ Grow w w') := by
 refine V.calls (args := [_]) Try.func57 rfl Try.ntmps57 rfl rfl ?_
 have hbl := byteN_lt N 31
 have hbi := bit_is hN
 have hoff := bit_off hN
 obtain ⟨y, hy0⟩ : ∃ y, y = N % B255 := ⟨_, rfl⟩
 rw [← hy0] at hoff
 have hyb : y < 115792089237316195423570985008687907853269984665640564039457584007913129639936 := by rw [hy0]; unfold B255; omega
 obtain ⟨odd, hodd⟩ : ∃ o : Bool, o = decide (N / B255 = 1) := ⟨_, rfl⟩
 have hod : decide (((byteN N 31 : Nat) : Int) ≥ 128) = odd := by
  rw [hodd]
  exact decide_eq_decide.2 (by omega)
 have hrd0 : ¬ y < p25519 → rd N = none := fun h => by unfold rd; rw [← hy0, if_neg h]
 have hrt := root5_c y hyb
 have hrok : hasRoot (rdX y) → rootC (rdX y) < p25519 := fun h => (rootC_ok h).1
 have hrd : y < p25519 → rd N = if hasRoot (rdX y) then (if N / B255 = 1 then (if rootC (rdX y) = 0 then none else some (p25519 - rootC (rdX y), y)) else some (rootC (rdX y), y)) else none := fun hy => by
  unfold rd; rw [← hy0, if_pos hy]
 have hrb := rootC_big (rdX y)
 obtain ⟨s, hs⟩ : ∃ s, s = rdX y := ⟨_, rfl⟩
 rw [← hs] at hrt hrok hrd hrb
 obtain ⟨r, hr⟩ : ∃ r, r = rootC s := ⟨_, rfl⟩
 rw [← hr] at hrt hrok hrd hrb
 obtain ⟨hb, hhb⟩ : ∃ b, b = decide (hasRoot s) := ⟨_, rfl⟩
 rw [← hhb] at hrt
 clear hs hr
 repeat (first | (refine TL.isLoad ?_; refine TL.load1 rfl (Blk.cell yB (numL_at (N := N) (i := 31) (by decide))) rfl ?_) | (refine TL.isAsg ?_; refine TL.pure rfl rfl ?_) | (refine TL.isLoad ?_; refine TL.loadW rfl yB (by exact rfl) rfl ?_) | (refine TL.isIndex ?_; refine TL.indexA1 rfl rfl (by omega) rfl ?_) | refine TL.nil ?_ | refine thenQ_normal ?_ | refine T.seq ?_ | refine T.region ?_ | (refine TL.isRem ?_; refine TL.remU rfl rfl (by omega) rfl ?_) | (refine TL.isBin ?_; refine TL.pure rfl rfl ?_) | (refine TL.isStore ?_; first | (refine TL.store1 rfl rfl yB (by exact rfl) (by exact rfl) (by exact rfl) ?_; intro w' hu hbk hsz) | (refine TL.storeWh rfl rfl yB (by exact rfl) (by exact rfl) (by exact rfl) ?_; intro w' hu hbk hsz)) | (refine TL.isBox ?_; (refine TL.boxA rfl rfl ?_; intro bk w' hg hbk hsz hsz')) | (refine TL.isAlloc ?_; first | (refine alloc_pt rfl ?_; intro bk w' hg hbk hsz hsz') | (refine TL.alloc rfl rfl ?_; intro bk w' hg hbk hsz hsz')))
 rw [show (numL N).set 31 (Value.int .u8 ((byteN N 31 % 128 : Nat) : Int)) = numL y from hoff] at hbk ⊢
 rw [hod]
 have qc := canon_r y hyb
 by_cases hy : y < p25519
 rotate_left
 ·rw [hrd0 hy]
  rw [decide_eq_false (fun e => hy (by rw [← e]; exact Nat.mod_lt _ (by decide)))] at qc
  repeat (first | (refine TL.isAsg ?_; refine TL.pure rfl rfl ?_) | refine TL.nil ?_ | refine thenQ_normal ?_ | refine T.seq ?_ | refine T.region ?_ | (refine TL.isStore ?_; (refine TL.storeWh rfl rfl yB (by exact rfl) (by exact rfl) (by exact rfl) ?_; intro w' hu hbk hsz)) | (refine TL.isBuild ?_; refine build_pt0 rfl rfl ?_) | refine T.cond_true rfl ?_ | refine T.ret ?_ | refine thenQ_ret ?_ | refine TL.pure rfl rfl ?_ | (refine TL.isFn 28 ?_; refine TL.call rfl (qc _) rfl ?_; rintro _ _ ⟨rfl, hgc⟩))
  exact retCT rfl (load_whole (by assumption) rfl) rfl ⟨_, rfl, rfl, yG⟩
 rw [decide_eq_true (Nat.mod_eq_of_lt hy)] at qc
 replace hrd := hrd hy
 clear hod hoff hbi hbl hrd0
 cases hb with
 | false =>
  rw [if_neg (of_decide_eq_false hhb.symm)] at hrd
  rw [hrd]
  repeat (first | refine TL.guard_skip rfl rfl rfl ?_ | (refine TL.isMove ?_; refine TL.pure rfl rfl ?_) | (refine TL.isAsg ?_; refine TL.pure rfl rfl ?_) | (refine TL.isLoad ?_; refine TL.loadW rfl yB (by exact rfl) rfl ?_) | refine TL.nil ?_ | refine thenQ_normal ?_ | refine T.seq ?_ | refine T.region ?_ | (refine TL.isStore ?_; (refine TL.storeWh rfl rfl yB (by exact rfl) (by exact rfl) (by exact rfl) ?_; intro w' hu hbk hsz)) | (refine TL.isAlloc ?_; (refine TL.alloc rfl rfl ?_; intro bk w' hg hbk hsz hsz')) | (refine TL.isBuild ?_; refine build_pt0 rfl rfl ?_) | refine T.cond_true rfl ?_ | refine T.cond_false rfl ?_ | refine T.ret ?_ | refine T.skip ?_ | refine thenQ_ret ?_ | refine TL.pure rfl rfl ?_ | (refine TL.isFn 28 ?_; refine TL.call rfl (qc _) rfl ?_; rintro _ _ ⟨rfl, hgc⟩) | (refine TL.isFn 87 ?_; refine TL.call rfl (hrt _) rfl ?_; rintro _ _ ⟨rfl, hgc⟩) | refine TL.guard_undef rfl rfl rfl ?_)
  exact retCT rfl (load_whole (by assumption) rfl) rfl ⟨_, rfl, rfl, yG⟩
 | true =>
  have hh := of_decide_eq_true hhb.symm
  rw [if_pos hh] at hrd
  cases odd with
  | false =>
   rw [if_neg (of_decide_eq_false hodd.symm)] at hrd
   rw [hrd]
   repeat (first | (refine TL.isGuard ?_; first | refine TL.guard_skip rfl rfl rfl ?_ | refine TL.guard_run rfl rfl rfl ?_) | (refine TL.isMove ?_; refine TL.pure rfl rfl ?_) | (refine TL.isAsg ?_; refine TL.pure rfl rfl ?_) | (refine TL.isLoad ?_; refine TL.loadW rfl yB (by exact rfl) rfl ?_) | refine TL.nil ?_ | refine thenQ_normal ?_ | refine T.seq ?_ | refine T.region ?_ | (refine TL.isStore ?_; (refine TL.storeWh rfl rfl yB (by exact rfl) (by exact rfl) (by exact rfl) ?_; intro w' hu hbk hsz)) | (refine TL.isAlloc ?_; (refine TL.alloc rfl rfl ?_; intro bk w' hg hbk hsz hsz')) | (refine TL.isBuild ?_; refine build_pt rfl rfl ?_) | refine T.cond_false rfl ?_ | refine T.ret ?_ | refine T.skip ?_ | refine TL.pure rfl rfl ?_ | (refine TL.isFn 28 ?_; refine TL.call rfl (qc _) rfl ?_; rintro _ _ ⟨rfl, hgc⟩) | (refine TL.isFn 87 ?_; refine TL.call rfl (hrt _) rfl ?_; rintro _ _ ⟨rfl, hgc⟩))
   exact retCT rfl (load_whole (by assumption) rfl) rfl ⟨_, rfl, rfl, yG⟩
  | true =>
   rw [if_pos (of_decide_eq_true hodd.symm)] at hrd
   by_cases hr0 : r = 0
   ·rw [if_pos hr0] at hrd
    rw [hrd]
    repeat (first | refine TL.guard_run rfl rfl rfl ?_ | (refine TL.isMove ?_; refine TL.pure rfl rfl ?_) | (refine TL.isAsg ?_; refine TL.pure rfl rfl ?_) | (refine TL.isLoad ?_; refine TL.loadW rfl yB (by exact rfl) rfl ?_) | refine TL.nil ?_ | refine thenQ_normal ?_ | refine T.seq ?_ | refine T.region ?_ | (refine TL.isStore ?_; (refine TL.storeWh rfl rfl yB (by exact rfl) (by exact rfl) (by exact rfl) ?_; intro w' hu hbk hsz)) | (refine TL.isAlloc ?_; (refine TL.alloc rfl rfl ?_; intro bk w' hg hbk hsz hsz')) | (refine TL.isBuild ?_; first | refine build_pt0 rfl rfl ?_ | refine TL.buildArr rfl rfl rfl ?_) | refine T.cond_true rfl ?_ | refine T.cond_false rfl ?_ | refine T.ret ?_ | refine T.skip ?_ | refine thenQ_ret ?_ | refine TL.pure rfl rfl ?_ | (refine TL.isFn 28 ?_; refine TL.call rfl (qc _) rfl ?_; rintro _ _ ⟨rfl, hgc⟩) | (refine TL.isFn 87 ?_; refine TL.call rfl (hrt _) rfl ?_; rintro _ _ ⟨rfl, hgc⟩) | (refine TL.isEqT 23 ?_; refine TL.eqArr (xs := numL r) (ys := numL 0) true rfl rfl rfl (by trivial) rfl ⟨fun _ => congrArg numL hr0, fun _ => rfl⟩ rfl ?_))
    exact retCT rfl (load_whole (by assumption) rfl) rfl ⟨_, rfl, rfl, yG⟩
   ·rw [if_neg hr0] at hrd
    rw [hrd]
    have hn := neg_r r hrb
    rw [negN (hrok hh) hr0] at hn
    repeat (first | refine TL.guard_run rfl rfl rfl ?_ | (refine TL.isMove ?_; refine TL.pure rfl rfl ?_) | (refine TL.isAsg ?_; refine TL.pure rfl rfl ?_) | (refine TL.isLoad ?_; refine TL.loadW rfl yB (by exact rfl) rfl ?_) | refine TL.nil ?_ | refine thenQ_normal ?_ | refine T.seq ?_ | refine T.region ?_ | (refine TL.isStore ?_; (refine TL.storeWh rfl rfl yB (by exact rfl) (by exact rfl) (by exact rfl) ?_; intro w' hu hbk hsz)) | (refine TL.isAlloc ?_; (refine TL.alloc rfl rfl ?_; intro bk w' hg hbk hsz hsz')) | (refine TL.isBuild ?_; first | refine build_pt rfl rfl ?_ | refine TL.buildArr rfl rfl rfl ?_) | refine T.cond_true rfl ?_ | refine T.cond_false rfl ?_ | refine T.ret ?_ | refine T.skip ?_ | refine TL.pure rfl rfl ?_ | (refine TL.isFn 28 ?_; refine TL.call rfl (qc _) rfl ?_; rintro _ _ ⟨rfl, hgc⟩) | (refine TL.isFn 87 ?_; refine TL.call rfl (hrt _) rfl ?_; rintro _ _ ⟨rfl, hgc⟩) | (refine TL.isEqT 23 ?_; refine TL.eqArr (xs := numL r) (ys := numL 0) false rfl rfl rfl (by trivial) rfl ⟨fun h => (by cases h), fun h => absurd (num_inj hrb (by decide) h) hr0⟩ rfl ?_) | (refine TL.isFn 34 ?_; refine TL.call rfl (hn _) rfl ?_; rintro _ _ ⟨rfl, hgc⟩))
    exact retCT rfl (load_whole (by assumption) rfl) rfl ⟨_, rfl, rfl, yG⟩
end Go.Proofs.Ytmpjigghgedjbaa
namespace Go.Proofs.Ytmpjigghgedjbaa
open Go Go.RowKit Go.V Go.N
theorem bit4_c (a i : Nat) (hi : i < 256) (w : World) : Calls Try.prog 92 #[num a, .int .i64 (i : Int)] w (Ret fun v w' => v = .bool (decide (a / 2 ^ i % 2 = 1)) ∧ Grow w w') := by
 refine V.calls (args := [_, _]) Try.func92 rfl Try.ntmps92 rfl rfl ?_
 have hbb := byte_bit' a i
 have hlt : byteN a (i / 8) / 2 ^ (i % 8) < 256 := Nat.lt_of_le_of_lt (Nat.div_le_self _ _) (byteN_lt _ _)
 rcases Nat.mod_two_eq_zero_or_one (a / 2 ^ i) with hb | hb
 ·rw [hb] at hbb
  rw [decide_eq_false (show ¬ (a / 2 ^ i % 2 = 1) by omega)]
  repeat (first | refine TL.guard_run rfl rfl rfl ?_ | (refine TL.isMove ?_; refine TL.pure rfl rfl ?_) | (refine TL.isAsg ?_; refine TL.pure rfl rfl ?_) | (refine TL.isIndex ?_; refine TL.indexA1 rfl rfl (by omega) rfl ?_) | refine TL.nil ?_ | refine thenQ_normal ?_ | refine T.seq ?_ | refine T.region ?_ | (refine TL.isShr ?_; refine TL.shrS rfl rfl (by (simp only [IntKind.bits]; omega)) rfl ?_) | (refine TL.isRem ?_; refine TL.remU rfl rfl (by omega) rfl ?_) | (refine TL.isQuo ?_; refine TL.quoN rfl rfl (by omega) (by omega) rfl ?_) | (refine TL.isBin ?_; first | refine TL.pureT rfl yD rfl ?_ | refine TL.pureF rfl yD rfl ?_) | (refine TL.isConv ?_; refine TL.convU rfl rfl (by omega) rfl ?_) | (refine TL.isBox ?_; (refine TL.boxA rfl rfl ?_; intro bk w' hg hbk hsz hsz')) | refine T.ret ?_ | refine TL.pure rfl rfl ?_ | (refine TL.isLoad ?_; refine TL.load1 rfl (Blk.cell yB (numL_at (by omega))) rfl ?_))
  exact ret1 rfl ⟨_, rfl, rfl, yG⟩
 ·rw [hb] at hbb
  rw [decide_eq_true hb]
  repeat (first | refine TL.guard_run rfl rfl rfl ?_ | (refine TL.isMove ?_; refine TL.pure rfl rfl ?_) | (refine TL.isAsg ?_; refine TL.pure rfl rfl ?_) | (refine TL.isIndex ?_; refine TL.indexA1 rfl rfl (by omega) rfl ?_) | refine TL.nil ?_ | refine thenQ_normal ?_ | refine T.seq ?_ | refine T.region ?_ | (refine TL.isShr ?_; refine TL.shrS rfl rfl (by (simp only [IntKind.bits]; omega)) rfl ?_) | (refine TL.isRem ?_; refine TL.remU rfl rfl (by omega) rfl ?_) | (refine TL.isQuo ?_; refine TL.quoN rfl rfl (by omega) (by omega) rfl ?_) | (refine TL.isBin ?_; refine TL.pureT rfl yD rfl ?_) | (refine TL.isConv ?_; refine TL.convU rfl rfl (by omega) rfl ?_) | (refine TL.isBox ?_; (refine TL.boxA rfl rfl ?_; intro bk w' hg hbk hsz hsz')) | refine T.ret ?_ | refine TL.pure rfl rfl ?_ | (refine TL.isLoad ?_; refine TL.load1 rfl (Blk.cell yB (numL_at (by omega))) rfl ?_))
  exact ret1 rfl ⟨_, rfl, rfl, yG⟩
theorem rep_d : Rep (opnW dN) dN := rep_opn (by decide)
theorem add5_y (P R : Pt) (hP : Val P) (hR : Val R) (w : World) : Calls Try.prog 59 #[pt P, pt R] w (Ret fun v w' => v = pt (addP P R) ∧ Grow w w') := by
 refine V.calls (args := [_, _]) Try.func59 rfl Try.ntmps59 rfl rfl ?_
 have p1 : P.1 < 115792089237316195423570985008687907853269984665640564039457584007913129639936 := Nat.lt_trans hP.1 (by decide)
 have p2 : P.2 < 115792089237316195423570985008687907853269984665640564039457584007913129639936 := Nat.lt_trans hP.2.1 (by decide)
 have r1 : R.1 < 115792089237316195423570985008687907853269984665640564039457584007913129639936 := Nat.lt_trans hR.1 (by decide)
 have r2 : R.2 < 115792089237316195423570985008687907853269984665640564039457584007913129639936 := Nat.lt_trans hR.2.1 (by decide)
 have fp := fp_away p1 p2
 have fr := fp_away r1 r2
 have fs := fp_plus rep_d hP hR fp fr
 have gd : Good (opnW dN) := rep_d.1
 obtain ⟨gp1, gp2, gp3⟩ := fp.goods
 obtain ⟨gr1, gr2, gr3⟩ := fr.goods
 have hck : ∀ v, Calls Try.prog 58 #[pt P] v (Ret fun u v' => u = .int .i64 0 ∧ Grow v v') := check5_y P hP
 have hck2 : ∀ v, Calls Try.prog 58 #[pt R] v (Ret fun u v' => u = .int .i64 0 ∧ Grow v v') := check5_y R hR
 repeat (first | (refine TL.isLoad ?_; refine TL.loadW rfl yB (by exact rfl) rfl ?_) | refine TL.nil ?_ | refine thenQ_normal ?_ | refine T.seq ?_ | refine T.region ?_ | (refine TL.isBox ?_; (refine TL.boxA rfl rfl ?_; intro bk w' hg hbk hsz hsz')) | (refine TL.isAlloc ?_; (refine alloc_pt rfl ?_; intro bk w' hg hbk hsz hsz')))
 refine TL.call rfl (hck _) rfl ?_
 rintro _ _ ⟨rfl, hg1⟩
 repeat (first | refine TL.guard_run rfl rfl rfl ?_ | (refine TL.isMove ?_; refine TL.pure rfl rfl ?_) | (refine TL.isLoad ?_; refine TL.loadW rfl yB (by exact rfl) rfl ?_) | (refine TL.isBin ?_; refine TL.pureF rfl yD rfl ?_))
 refine TL.call rfl (hck2 _) rfl ?_
 rintro _ _ ⟨rfl, hg2⟩
 repeat (first | refine TL.guard_run rfl rfl rfl ?_ | refine TL.nil ?_ | refine thenQ_normal ?_ | refine T.seq ?_ | (refine TL.isBin ?_; refine TL.pureF rfl yD rfl ?_) | refine T.cond_false rfl ?_ | refine T.skip ?_ | refine TL.pure rfl rfl ?_)
 apply T.any 8 [is _, is _, is _, is _, is _, is _, is _, is _]; (· kernel_rfl); (· ((repeat' (first | exact allDo_end | refine allDo_cons ?_ ?_)); (iterate 8 (· ((refine does_mk0 rfl rfl rfl ?_); ( intro wq _ _ hgq; (repeat (refine need_cons rfl rfl ?_; intro vq hvq; try (obtain rfl := hvq))); (refine need_nil ?_)); (repeat (first | (refine TL.isLoad ?_; refine TL.loadW rfl yB (by exact rfl) rfl ?_) | refine TL.nil ?_ | (refine TL.isFn 55 ?_; refine TL.call rfl (d5_c _) rfl ?_; rintro _ _ ⟨rfl, hgc⟩) | (refine TL.isFn 75 ?_; refine TL.call rfl (opn_w _ _) rfl ?_; rintro _ _ ⟨rfl, hgc⟩) | (refine TL.isFn 91 ?_; refine TL.call rfl (away_f _ _) rfl ?_; rintro _ _ ⟨rfl, hgc⟩) | (refine TL.isFn 90 ?_; refine TL.call rfl (plus_f _ _ _ (by assumption) (by assumption) (by assumption) (by assumption) (by assumption) (by assumption) (by assumption) _) rfl ?_; rintro _ _ ⟨rfl, hgc⟩) | (refine TL.isFn 89 ?_; refine TL.call rfl (near_f _ _ (add_val hP hR) fs _) rfl ?_; rintro _ _ ⟨rfl, hgc⟩))); exact one_end rfl yG rfl))))); (rintro _ _ _ hgr _ _; (repeat (refine need_cons rfl rfl ?_; intro vq hvq; try (obtain rfl := hvq))); (refine need_nil ?_))
 repeat (first | refine TL.nil ?_ | refine thenQ_normal ?_ | (refine TL.isStore ?_; (refine TL.storeWh rfl rfl yB (by exact rfl) (by exact rfl) (by exact rfl) ?_; intro w' hu hbk hsz)) | refine T.ret ?_)
 exact retC rfl (load_whole (by assumption) rfl) ⟨_, rfl, rfl, yG⟩
theorem mul25_y (a b : Nat) (P R : Pt) (ha : a < 115792089237316195423570985008687907853269984665640564039457584007913129639936) (hb : b < 115792089237316195423570985008687907853269984665640564039457584007913129639936) (hP : Val P) (hR : Val R) (w : World) :
  Calls Try.prog 61 #[num a, pt P, num b, pt R] w (Ret fun v w' => v = pt (addP (mulP a P) (mulP b R)) ∧ Grow w w') := by
 refine V.calls (args := [_, _, _, _]) Try.func61 rfl Try.ntmps61 rfl rfl ?_
 have p1 : P.1 < 115792089237316195423570985008687907853269984665640564039457584007913129639936 := Nat.lt_trans hP.1 (by decide)
 have p2 : P.2 < 115792089237316195423570985008687907853269984665640564039457584007913129639936 := Nat.lt_trans hP.2.1 (by decide)
 have r1 : R.1 < 115792089237316195423570985008687907853269984665640564039457584007913129639936 := Nat.lt_trans hR.1 (by decide)
 have r2 : R.2 < 115792089237316195423570985008687907853269984665640564039457584007913129639936 := Nat.lt_trans hR.2.1 (by decide)
 have fp := fp_away p1 p2
 have fr := fp_away r1 r2
 have f0 := fp_away (P := zeroP) (by decide) (by decide)
 have hck : ∀ v, Calls Try.prog 58 #[pt P] v (Ret fun u v' => u = .int .i64 0 ∧ Grow v v') := check5_y P hP
 have hck2 : ∀ v, Calls Try.prog 58 #[pt R] v (Ret fun u v' => u = .int .i64 0 ∧ Grow v v') := check5_y R hR
 refine T.cutAt 3 (fun e v => ∃ b4 b6 b8 b9 b10 b11 b12, Sub [(4, .pointer (some ⟨b4, 0, none⟩)), (6, .pointer (some ⟨b6, 0, none⟩)), (8, .pointer (some ⟨b8, 0, none⟩)), (9, .pointer (some ⟨b9, 0, none⟩)), (10, .pointer (some ⟨b10, 0, none⟩)), (11, .pointer (some ⟨b11, 0, none⟩)), (12, .pointer (some ⟨b12, 0, none⟩))] e ∧ Blk v b4 23 (numL a) ∧ Blk v b6 23 (numL b) ∧ Blk v b8 39 (ptL 0 0) ∧ Blk v b9 75 (wL (opnW dN)) ∧ Blk v b10 91 (farL (awayF zeroP)) ∧ Blk v b11 91 (farL (awayF P)) ∧ Blk v b12 91 (farL (awayF R)) ∧ w.heap.size ≤ b8 ∧ w.heap.size ≤ b10 ∧ (b4 ≠ b10 ∧ b6 ≠ b10 ∧ b8 ≠ b10 ∧ b9 ≠ b10 ∧ b11 ≠ b10 ∧ b12 ≠ b10) ∧ Grow w v) ?_ ?_
 rotate_left
 ·repeat (first | (refine TL.isLoad ?_; refine TL.loadW rfl yB (by exact rfl) rfl ?_) | refine TL.nil ?_ | refine T.seq ?_ | refine T.region ?_ | (refine TL.isBox ?_; (refine TL.boxA rfl rfl ?_; intro bk w' hg hbk hsz hsz')) | (refine TL.isAlloc ?_; (refine alloc_pt rfl ?_; intro bk w' hg hbk hsz hsz')) | refine uptoQ_normal ?_ | refine upto_seq ?_)
  rename_i b4 w4 g4 k4 s4 t4 b5 w5 g5 k5 s5 t5 b6 w6 g6 k6 s6 t6 b7 w7 g7 k7 s7 t7
  obtain ⟨b8, rfl⟩ : ∃ q, q = bk := ⟨_, rfl⟩
  have hw8 : w.heap.size ≤ b8 := by omega
  refine TL.call rfl (hck _) rfl ?_
  rintro _ _ ⟨rfl, hg1⟩
  repeat (first | refine TL.guard_run rfl rfl rfl ?_ | (refine TL.isMove ?_; refine TL.pure rfl rfl ?_) | (refine TL.isLoad ?_; refine TL.loadW rfl yB (by exact rfl) rfl ?_) | (refine TL.isBin ?_; refine TL.pureF rfl yD rfl ?_))
  refine TL.call rfl (hck2 _) rfl ?_
  rintro _ v2 ⟨rfl, hg2⟩
  have m4 : Blk v2 b4 23 (numL a) := by exact yB
  have m5 : Blk v2 b5 39 (ptL P.1 P.2) := by exact yB
  have m6 : Blk v2 b6 23 (numL b) := by exact yB
  have m7 : Blk v2 b7 39 (ptL R.1 R.2) := by exact yB
  have m8 : Blk v2 b8 39 (ptL 0 0) := by exact yB
  have hG : Grow w v2 := by exact yG
  have l4 := m4.lt
  have l5 := m5.lt
  have l6 := m6.lt
  have l7 := m7.lt
  have l8 := m8.lt
  have hg0 := hG.2
  clear k4 k5 k6 k7 hbk g4 g5 g6 g7 hg hg1 hg2 hck hck2
  repeat (first | refine TL.guard_run rfl rfl rfl ?_ | refine TL.nil ?_ | refine thenQ_normal ?_ | (refine TL.isBin ?_; refine TL.pureF rfl yD rfl ?_) | refine T.cond_false rfl ?_ | refine T.skip ?_ | refine TL.pure rfl rfl ?_ | refine uptoQ_normal ?_ | refine upto_seq ?_)
  refine T.weaken (e' := [(4, .pointer (some ⟨b4, 0, none⟩)), (5, .pointer (some ⟨b5, 0, none⟩)), (6, .pointer (some ⟨b6, 0, none⟩)), (7, .pointer (some ⟨b7, 0, none⟩)), (8, .pointer (some ⟨b8, 0, none⟩))]) ?_ ⟨rfl, rfl, rfl, rfl, rfl, trivial⟩
  (apply T.any 12 [is _, is _, is _, is _, is _, is _, is _, is _, newB 75 z10, newB 91 z30, newB 91 z30, newB 91 z30]; (· kernel_rfl); (· ((repeat' (first | exact allDo_end | refine allDo_cons ?_ ?_)); (iterate 8 (· ((refine does_mk0 rfl rfl rfl ?_); ( intro wq _ _ hgq; (repeat (refine need_cons rfl rfl ?_; intro vq hvq; try (obtain rfl := hvq))); (refine need_nil ?_)); (repeat (first | (refine TL.isLoad ?_; refine TL.loadW rfl yB (by exact rfl) rfl ?_) | refine TL.nil ?_ | (refine TL.isFn 55 ?_; refine TL.call rfl (d5_c _) rfl ?_; rintro _ _ ⟨rfl, hgc⟩) | (refine TL.isFn 75 ?_; refine TL.call rfl (opn_w _ _) rfl ?_; rintro _ _ ⟨rfl, hgc⟩) | (refine TL.isFn 88 ?_; refine TL.call rfl (zero5_c _) rfl ?_; rintro _ _ ⟨rfl, hgc⟩) | (refine TL.isFn 91 ?_; refine TL.call rfl (away_f _ _) rfl ?_; rintro _ _ ⟨rfl, hgc⟩))); exact one_end rfl yG rfl))); (iterate 4 (· (refine does_mk0 rfl rfl rfl ?_); ( intro wq _ _ hgq; (repeat (refine need_cons rfl rfl ?_; intro vq hvq; try (obtain rfl := hvq))); (refine need_nil ?_)); (repeat (first | refine TL.nil ?_ | (refine TL.isAlloc ?_; (refine TL.alloc rfl rfl ?_; intro bk w' hg hbk hsz hsz')))); exact one_end rfl yG ⟨_, rfl, by omega, by omega, by assumption⟩)))); (rintro _ _ _ hgr hspan hdj; (repeat (refine need_cons rfl rfl ?_; intro vq hvq; try (obtain rfl := hvq))); (refine need_nil ?_)); obtain ⟨bn4, rfl, hl4, hh4, hnb4⟩ := hvq; obtain ⟨bn3, rfl, hl3, hh3, hnb3⟩ := hvq; obtain ⟨bn2, rfl, hl2, hh2, hnb2⟩ := hvq; obtain ⟨bn1, rfl, hl1, hh1, hnb1⟩ := hvq; (try simp only [Nat.reduceAdd] at hl1 hh1 hl2 hh2 hl3 hh3 hl4 hh4); have hd21 : bn2 ≠ bn1 := (by have hz := hdj 9 8 (by omega) (by omega) (by omega); omega); have hd31 : bn3 ≠ bn1 := (by have hz := hdj 10 8 (by omega) (by omega) (by omega); omega); have hd32 : bn3 ≠ bn2 := (by have hz := hdj 10 9 (by omega) (by omega) (by omega); omega); have hd41 : bn4 ≠ bn1 := (by have hz := hdj 11 8 (by omega) (by omega) (by omega); omega); have hd42 : bn4 ≠ bn2 := (by have hz := hdj 11 9 (by omega) (by omega) (by omega); omega); have hd43 : bn4 ≠ bn3 := (by have hz := hdj 11 10 (by omega) (by omega) (by omega); omega); have hsp := hspan 8 (by omega); replace hl1 := Nat.le_trans hsp.1 hl1; replace hh1 := Nat.lt_of_lt_of_le hh1 hsp.2.2; clear hsp; have hsp := hspan 9 (by omega); replace hl2 := Nat.le_trans hsp.1 hl2; replace hh2 := Nat.lt_of_lt_of_le hh2 hsp.2.2; clear hsp; have hsp := hspan 10 (by omega); replace hl3 := Nat.le_trans hsp.1 hl3; replace hh3 := Nat.lt_of_lt_of_le hh3 hsp.2.2; clear hsp; have hsp := hspan 11 (by omega); replace hl4 := Nat.le_trans hsp.1 hl4; replace hh4 := Nat.lt_of_lt_of_le hh4 hsp.2.2; clear hsp; clear hspan hdj)
  obtain ⟨b9, rfl⟩ : ∃ q, q = bn1 := ⟨_, rfl⟩
  obtain ⟨b10, rfl⟩ : ∃ q, q = bn2 := ⟨_, rfl⟩
  obtain ⟨b11, rfl⟩ : ∃ q, q = bn3 := ⟨_, rfl⟩
  obtain ⟨b12, rfl⟩ : ∃ q, q = bn4 := ⟨_, rfl⟩
  repeat (first | (refine TL.isStoreT 75 ?_; refine TL.storeL rfl rfl yB (by exact rfl) ?_; intro w' hu hbk hsz) | (refine TL.isStoreT 91 ?_; refine TL.storeL rfl rfl yB (by exact rfl) ?_; intro w' hu hbk hsz) | refine TL.nil ?_ | refine uptoQ_normal ?_ | refine upto_end ?_)
  exact ⟨b4, b6, b8, b9, b10, b11, b12, ⟨rfl, rfl, rfl, rfl, rfl, rfl, rfl, trivial⟩, yB, yB, yB, yB, yB, yB, hbk, hw8, by omega, ⟨by omega, by omega, by omega, by omega, by omega, by omega⟩, yG⟩
 clear hck hck2
 rintro e w1 ⟨b4, b6, b8, b9, b10, b11, b12, hsub, m4, m6, m8, m9, m10, m11, m12, hw8, hw10, ⟨n4, n6, n8, n9, n11, n12⟩, hG⟩
 refine T.weaken (e' := [(4, _), (6, _), (8, _), (9, _), (10, _), (11, _), (12, _)]) ?_ hsub
 clear hsub
 repeat (first | (refine TL.isAsg ?_; refine TL.pure rfl rfl ?_) | refine TL.nil ?_ | refine thenQ_normal ?_ | refine T.seq ?_ | refine T.region ?_ | refine T.block ?_)
 refine T.loop (S := Nat) (fun k => [(13, ctr k), (4, .pointer (some ⟨b4, 0, none⟩)), (6, .pointer (some ⟨b6, 0, none⟩)), (8, .pointer (some ⟨b8, 0, none⟩)), (9, .pointer (some ⟨b9, 0, none⟩)), (10, .pointer (some ⟨b10, 0, none⟩)), (11, .pointer (some ⟨b11, 0, none⟩)), (12, .pointer (some ⟨b12, 0, none⟩))])
  (fun k v => k ≤ 256 ∧ Blk v b4 23 (numL a) ∧ Blk v b6 23 (numL b) ∧ Blk v b8 39 (ptL 0 0) ∧ Blk v b9 75 (wL (opnW dN)) ∧ Blk v b11 91 (farL (awayF P)) ∧ Blk v b12 91 (farL (awayF R)) ∧ (∃ p : FW, FP p (lad a b k P R) ∧ Blk v b10 91 (farL p)) ∧ Grow w v) (fun k => k) 256 ⟨rfl, rfl, rfl, rfl, rfl, rfl, rfl, rfl, trivial⟩
  ⟨by omega, m4, m6, m8, m9, m11, m12, ⟨_, by rw [lad_top hP hR ha hb]; exact f0, m10⟩, hG⟩ ?_
 clear m4 m6 m8 m9 m10 m11 m12 hG
 rintro k v ⟨hk, m4, m6, m8, m9, m11, m12, ⟨p, hf, m10⟩, hG⟩
 have hv := lad_val hP hR a b k
 have wp := hf.wf
 have l4 := m4.lt
 have l6 := m6.lt
 have l8 := m8.lt
 have l9 := m9.lt
 have l10 := m10.lt
 have l11 := m11.lt
 have l12 := m12.lt
 cases k with
 | zero =>
  refine T.weaken (e' := [(13, .int .i64 (-1)), (8, _), (10, _)]) ?_ ⟨rfl, rfl, rfl, trivial⟩
  repeat (first | (refine TL.isLoadT 91 ?_; refine TL.loadC rfl yB rfl ?_) | (refine TL.isMove ?_; refine TL.pure rfl rfl ?_) | refine TL.nil ?_ | refine thenQ_normal ?_ | refine T.seq ?_ | refine T.region ?_ | (refine TL.isBin ?_; refine TL.pureF rfl yD rfl ?_) | (refine TL.isStore ?_; (refine TL.storeWh rfl rfl yB (by exact rfl) (by exact rfl) (by exact rfl) ?_; intro w' hu hbk hsz)) | refine T.cond_false rfl ?_ | refine T.ret ?_ | refine T.exit ?_ | refine thenQ_exit ?_ | refine blockQ_hit ?_ | refine loopQ_exit ?_ | (refine TL.isFn 89 ?_; refine TL.call rfl (near_f _ _ hv hf _) rfl ?_; rintro _ _ ⟨rfl, hgc⟩))
  exact retC rfl (load_whole (by assumption) rfl) ⟨_, rfl, by rw [← lad_0], yG⟩
 | succ k =>
  refine T.weaken (e' := [(13, .int .i64 (k : Int)), (4, _), (6, _), (8, _), (9, _), (10, _), (11, _), (12, _)]) ?_ ⟨rfl, rfl, rfl, rfl, rfl, rfl, rfl, rfl, trivial⟩
  have hk' : k < 256 := by omega
  have v2 := add_val hv hv
  have gd : Good (opnW dN) := rep_d.1
  have f2 := fp_plus rep_d hv hv hf hf
  have f3 := fp_plus rep_d v2 hP f2 fp
  have f3' := fp_plus rep_d v2 hR f2 fr
  have f4 := fp_plus rep_d (add_val v2 hP) hR f3 fr
  obtain ⟨ga1, ga2, ga3⟩ := hf.goods
  obtain ⟨gb1, gb2, gb3⟩ := f2.goods
  obtain ⟨gc1, gc2, gc3⟩ := f3.goods
  obtain ⟨gp1, gp2, gp3⟩ := fp.goods
  obtain ⟨gr1, gr2, gr3⟩ := fr.goods
  by_cases h1 : a / 2 ^ k % 2 = 1 <;> by_cases h2 : b / 2 ^ k % 2 = 1
  ·repeat (first | (refine TL.isLoadT 91 ?_; refine TL.loadC rfl yB rfl ?_) | (refine TL.isLoadT 75 ?_; refine TL.loadC rfl yB rfl ?_) | (refine TL.isStoreT 91 ?_; refine TL.storeL rfl rfl yB (by exact Len.h.1) ?_; intro w' hu hbk hsz) | (refine TL.isMove ?_; refine TL.pure rfl rfl ?_) | (refine TL.isAsg ?_; refine TL.pure rfl rfl ?_) | (refine TL.isLoad ?_; refine TL.loadW rfl yB (by exact rfl) rfl ?_) | (refine TL.isSub ?_; refine TL.subI rfl rfl (by omega) (by omega) rfl ?_) | refine TL.nil ?_ | refine thenQ_normal ?_ | refine T.seq ?_ | refine T.region ?_ | refine T.block ?_ | refine blockQ_normal ?_ | (refine TL.isBin ?_; refine TL.pureT rfl yD rfl ?_) | refine T.cond_true rfl ?_ | refine T.cond_yes rfl yD ?_ | refine T.skip ?_ | (refine TL.isFn 90 ?_; refine TL.call rfl (plus_f _ _ _ (by assumption) (by assumption) (by assumption) (by assumption) (by assumption) (by assumption) (by assumption) _) rfl ?_; rintro _ _ ⟨rfl, hgc⟩) | (refine TL.isFn 92 ?_; refine TL.call rfl (bit4_c _ k hk' _) rfl ?_; rintro _ _ ⟨rfl, hgc⟩))
   exact loopQ_normal k ⟨ctr_at k, rfl, rfl, rfl, rfl, rfl, rfl, rfl, trivial⟩ ⟨by omega, yB, yB, yB, yB, yB, yB, ⟨_, (by rw [lad_11 hP hR h1 h2, ← add_assoc' v2 hP hR]; exact f4), yB⟩, yG⟩ (by omega)
  ·repeat (first | (refine TL.isLoadT 91 ?_; refine TL.loadC rfl yB rfl ?_) | (refine TL.isLoadT 75 ?_; refine TL.loadC rfl yB rfl ?_) | (refine TL.isStoreT 91 ?_; refine TL.storeL rfl rfl yB (by exact Len.h.1) ?_; intro w' hu hbk hsz) | (refine TL.isMove ?_; refine TL.pure rfl rfl ?_) | (refine TL.isAsg ?_; refine TL.pure rfl rfl ?_) | (refine TL.isLoad ?_; refine TL.loadW rfl yB (by exact rfl) rfl ?_) | (refine TL.isSub ?_; refine TL.subI rfl rfl (by omega) (by omega) rfl ?_) | refine TL.nil ?_ | refine thenQ_normal ?_ | refine T.seq ?_ | refine T.region ?_ | refine T.block ?_ | refine blockQ_normal ?_ | (refine TL.isBin ?_; refine TL.pureT rfl yD rfl ?_) | refine T.cond_true rfl ?_ | refine T.cond_yes rfl yD ?_ | refine T.cond_no rfl yD ?_ | refine T.skip ?_ | (refine TL.isFn 90 ?_; refine TL.call rfl (plus_f _ _ _ (by assumption) (by assumption) (by assumption) (by assumption) (by assumption) (by assumption) (by assumption) _) rfl ?_; rintro _ _ ⟨rfl, hgc⟩) | (refine TL.isFn 92 ?_; refine TL.call rfl (bit4_c _ k hk' _) rfl ?_; rintro _ _ ⟨rfl, hgc⟩))
   exact loopQ_normal k ⟨ctr_at k, rfl, rfl, rfl, rfl, rfl, rfl, rfl, trivial⟩ ⟨by omega, yB, yB, yB, yB, yB, yB, ⟨_, (by rw [lad_10 hP hR h1 h2]; exact f3), yB⟩, yG⟩ (by omega)
  ·repeat (first | (refine TL.isLoadT 91 ?_; refine TL.loadC rfl yB rfl ?_) | (refine TL.isLoadT 75 ?_; refine TL.loadC rfl yB rfl ?_) | (refine TL.isStoreT 91 ?_; refine TL.storeL rfl rfl yB (by exact Len.h.1) ?_; intro w' hu hbk hsz) | (refine TL.isMove ?_; refine TL.pure rfl rfl ?_) | (refine TL.isAsg ?_; refine TL.pure rfl rfl ?_) | (refine TL.isLoad ?_; refine TL.loadW rfl yB (by exact rfl) rfl ?_) | (refine TL.isSub ?_; refine TL.subI rfl rfl (by omega) (by omega) rfl ?_) | refine TL.nil ?_ | refine thenQ_normal ?_ | refine T.seq ?_ | refine T.region ?_ | refine T.block ?_ | refine blockQ_normal ?_ | (refine TL.isBin ?_; refine TL.pureT rfl yD rfl ?_) | refine T.cond_true rfl ?_ | refine T.cond_yes rfl yD ?_ | refine T.cond_no rfl yD ?_ | refine T.skip ?_ | (refine TL.isFn 90 ?_; refine TL.call rfl (plus_f _ _ _ (by assumption) (by assumption) (by assumption) (by assumption) (by assumption) (by assumption) (by assumption) _) rfl ?_; rintro _ _ ⟨rfl, hgc⟩) | (refine TL.isFn 92 ?_; refine TL.call rfl (bit4_c _ k hk' _) rfl ?_; rintro _ _ ⟨rfl, hgc⟩))
   exact loopQ_normal k ⟨ctr_at k, rfl, rfl, rfl, rfl, rfl, rfl, rfl, trivial⟩ ⟨by omega, yB, yB, yB, yB, yB, yB, ⟨_, (by rw [lad_01 hP hR h1 h2]; exact f3'), yB⟩, yG⟩ (by omega)
  ·repeat (first | (refine TL.isLoadT 91 ?_; refine TL.loadC rfl yB rfl ?_) | (refine TL.isLoadT 75 ?_; refine TL.loadC rfl yB rfl ?_) | (refine TL.isStoreT 91 ?_; refine TL.storeL rfl rfl yB (by exact Len.h.1) ?_; intro w' hu hbk hsz) | (refine TL.isMove ?_; refine TL.pure rfl rfl ?_) | (refine TL.isAsg ?_; refine TL.pure rfl rfl ?_) | (refine TL.isLoad ?_; refine TL.loadW rfl yB (by exact rfl) rfl ?_) | (refine TL.isSub ?_; refine TL.subI rfl rfl (by omega) (by omega) rfl ?_) | refine TL.nil ?_ | refine thenQ_normal ?_ | refine T.seq ?_ | refine T.region ?_ | refine T.block ?_ | refine blockQ_normal ?_ | (refine TL.isBin ?_; refine TL.pureT rfl yD rfl ?_) | refine T.cond_true rfl ?_ | refine T.cond_no rfl yD ?_ | refine T.skip ?_ | (refine TL.isFn 90 ?_; refine TL.call rfl (plus_f _ _ _ (by assumption) (by assumption) (by assumption) (by assumption) (by assumption) (by assumption) (by assumption) _) rfl ?_; rintro _ _ ⟨rfl, hgc⟩) | (refine TL.isFn 92 ?_; refine TL.call rfl (bit4_c _ k hk' _) rfl ?_; rintro _ _ ⟨rfl, hgc⟩))
   exact loopQ_normal k ⟨ctr_at k, rfl, rfl, rfl, rfl, rfl, rfl, rfl, trivial⟩ ⟨by omega, yB, yB, yB, yB, yB, yB, ⟨_, (by rw [lad_00 hP hR h1 h2]; exact f2), yB⟩, yG⟩ (by omega)
end Go.Proofs.Ytmpjigghgedjbaa
