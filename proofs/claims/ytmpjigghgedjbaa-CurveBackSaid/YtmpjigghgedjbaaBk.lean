import Derived.Test.YtmpjigghgedjbaaBj
import Derived.Test.YtmpjigghgedjbaaBg
set_option linter.unusedSimpArgs false
set_option linter.unusedVariables false
set_option linter.unusedSectionVars false
namespace Go.Proofs.Ytmpjigghgedjbaa
open Go Go.RowKit Go.V
set_option maxHeartbeats 4000000 in
set_option maxRecDepth 10000 in
theorem plus_w (xs ys : List Nat) (hx : Good xs) (hy : Good ys) (w : World) :
    Calls Try.prog 76 #[tenV xs, tenV ys] w (Ret fun v w' => v = tenV (plusW xs ys) ∧ Grow w w') := by
  refine V.calls (args := [_, _]) Try.func76 rfl Try.ntmps76 rfl rfl ?_
  have lx := hx.len
  have ly := hy.len
  have lz : (addW xs ys).length = 10 := addW_len _ _
  have yz : (wL (addW xs ys)).length = 10 := by rw [wL_len, lz]
  have yp : (wL (plusW xs ys)).length = 10 := by rw [wL_len]; unfold plusW; exact carry_len lz
  have hcar : ∀ v, Calls Try.prog 96 #[tenV (addW xs ys)] v (Ret fun u v' => u = tenV (plusW xs ys) ∧ Grow v v') := fun v => by unfold plusW; exact carry_c _ lz (bd_good (B := 268435456) (by decide) (addW_lt hx hy)) v
  repeat (first | (refine TL.isAsg ?_; first | refine TL.pure rfl rfl ?_) | refine TL.nil ?_ | refine thenQ_normal ?_ | refine T.seq ?_ | refine T.region ?_ | refine T.block ?_ | (refine TL.isBox ?_; first | (refine TL.boxA rfl rfl ?_; intro bk w' hg hbk hsz hsz')) | (refine TL.isAlloc ?_; first | (refine TL.alloc rfl rfl ?_; intro bk w' hg hbk hsz hsz')))
  rename_i b1 w1 gg1 k1 s1 t1 b2 w2 gg2 k2 s2 t2
  have k3 : Blk w' bk 75 [I1 0, I1 0, I1 0, I1 0, I1 0, I1 0, I1 0, I1 0, I1 0, I1 0] := hbk
  clear hbk
  refine T.loop (S := Nat) (fun i => [(5, .int .i64 (i : Int)), (2, .pointer (some ⟨b1, 0, none⟩)), (3, .pointer (some ⟨b2, 0, none⟩)), (4, .pointer (some ⟨bk, 0, none⟩))])
    (fun i v => i ≤ 10 ∧ Blk v b1 75 (wL (updL xs (addW xs ys) i)) ∧ Blk v b2 75 (wL ys) ∧ Blk v bk 75 [I1 0, I1 0, I1 0, I1 0, I1 0, I1 0, I1 0, I1 0, I1 0, I1 0] ∧ Grow w v) (fun i => 10 - i) 0 ⟨rfl, rfl, rfl, rfl, trivial⟩
    ⟨by omega, by rw [updL_0 lx]; exact yB, yB, k3, yG⟩ ?_
  have := gg1.2
  have := gg2.2
  have hw1 : w.heap.size ≤ b1 := by omega
  have hw3 : w.heap.size ≤ bk := by omega
  have ne12 : b1 ≠ b2 := by omega
  have ne13 : b1 ≠ bk := by omega
  have ne23 : b2 ≠ bk := by omega
  clear k1 k2 k3 gg1 gg2 hg s1 t1 s2 t2 hsz hsz'
  rintro i v ⟨hi, m1, m2, m3, hG⟩
  have n1 := m1.lt
  have n2 := m2.lt
  have n3 := m3.lt
  rcases Nat.lt_or_ge i 10 with hlt | hge
  · have g1 := hx.gd i
    have g2 := hy.gd i
    have lu := updL_len xs (addW xs ys) i
    have eu := updL_at xs (addW xs ys) hlt
    have hza : gd (addW xs ys) i = gd xs i + gd ys i := addW_gd _ _ hlt
    have hload : (wL (updL xs (addW xs ys) i))[i]? = some (I1 (gd xs i)) := by rw [wL_at (by omega), eu]
    repeat (first | (refine TL.isMove ?_; first | refine TL.pure rfl rfl ?_) | refine TL.nil ?_ | refine thenQ_normal ?_ | refine T.seq ?_ | refine T.region ?_ | refine T.block ?_ | (refine TL.isBin ?_; first | refine TL.pureT rfl yD rfl ?_) | refine T.cond_true rfl ?_ | refine T.skip ?_)
    apply T.any 8 [is _, is _, is _, is _, is _, is _, is _, is _]; (· first | kernel_rfl); (· ((repeat' (first | exact allDo_end | refine allDo_cons ?_ ?_)); (iterate 8 (· ((first | refine does_mk0 rfl rfl rfl ?_); ( intro wq _ _ hgq; (repeat (refine need_cons rfl rfl ?_; intro vq hvq; try (obtain rfl := hvq))); (refine need_nil ?_)); (repeat (first | (refine TL.isMove ?_; first | refine TL.pure rfl rfl ?_) | (refine TL.isIndex ?_; first | refine TL.indexA1 rfl rfl (by first | omega) rfl ?_) | (refine TL.isAdd ?_; first | refine TL.addN rfl rfl (by first | omega) rfl ?_) | refine TL.nil ?_ | (refine TL.isLoad ?_; first | refine TL.load1 rfl (Blk.cell yB hload) rfl ?_ | refine TL.load1 rfl (Blk.cell yB (wL_at (by omega))) rfl ?_))); first | exact one_end rfl yG rfl))))); (rintro _ _ _ hgr _ _; (repeat (refine need_cons rfl rfl ?_; intro vq hvq; try (obtain rfl := hvq))); (refine need_nil ?_))
    repeat (first | (refine TL.isIndex ?_; first | refine TL.indexA1 rfl rfl (by first | omega) rfl ?_))
    refine TL.storeS rfl rfl yB (by exact rfl) (by rw [wL_len]; omega) ?_
    intro w3 hu3 hbk3 hsz3
    rw [← hza, wL_set, updL_set _ _ hlt] at hbk3
    repeat (first | (refine TL.isMove ?_; first | refine TL.pure rfl rfl ?_) | (refine TL.isAsg ?_; first | refine TL.pure rfl rfl ?_) | (refine TL.isAdd ?_; first | refine TL.addN rfl rfl (by first | omega) rfl ?_) | refine TL.nil ?_ | refine thenQ_normal ?_ | refine T.region ?_ | refine blockQ_normal ?_)
    exact loopQ_normal (i + 1) ⟨rfl, rfl, rfl, rfl, trivial⟩ ⟨by omega, hbk3, yB, yB, yG⟩ (by omega)
  · obtain rfl : i = 10 := by omega
    rw [updL_10 lz] at m1
    repeat (first | (refine TL.isMove ?_; first | refine TL.pure rfl rfl ?_) | refine TL.nil ?_ | refine thenQ_normal ?_ | refine T.seq ?_ | refine T.region ?_ | (refine TL.isBin ?_; first | refine TL.pureF rfl yD rfl ?_) | refine T.cond_false rfl ?_ | refine T.ret ?_ | refine T.exit ?_ | refine thenQ_exit ?_ | refine blockQ_hit ?_ | refine loopQ_exit ?_ | (refine TL.isLoad ?_; refine TL.loadW rfl yB (by rw [yz]; rfl) rfl ?_) | (refine TL.isFn 96 ?_; refine TL.call rfl (hcar _) rfl ?_; rintro _ _ ⟨rfl, hgc⟩) | (refine TL.isStore ?_; refine TL.storeWh rfl rfl yB (by rw [yp]; rfl) (by exact rfl) (wL_one _) ?_; intro w' hu hbk hsz))
    exact retC rfl (load_whole (by assumption) (by rw [yp]; rfl)) ⟨_, rfl, rfl, yG⟩
set_option maxHeartbeats 4000000 in
set_option maxRecDepth 10000 in
theorem minus_w (xs ys : List Nat) (hx : Good xs) (hy : Good ys) (w : World) :
    Calls Try.prog 77 #[tenV xs, tenV ys] w (Ret fun v w' => v = tenV (minusW xs ys) ∧ Grow w w') := by
  refine V.calls (args := [_, _]) Try.func77 rfl Try.ntmps77 rfl rfl ?_
  have lx := hx.len
  have ly := hy.len
  have lz : (subW xs ys).length = 10 := subW_len _ _
  have yz : (wL (subW xs ys)).length = 10 := by rw [wL_len, lz]
  have yp : (wL (minusW xs ys)).length = 10 := by rw [wL_len]; unfold minusW; exact carry_len lz
  have hcar : ∀ v, Calls Try.prog 96 #[tenV (subW xs ys)] v (Ret fun u v' => u = tenV (minusW xs ys) ∧ Grow v v') := fun v => by unfold minusW; exact carry_c _ lz (bd_good (B := 402653184) (by decide) (subW_lt hx hy)) v
  repeat (first | (refine TL.isAsg ?_; first | refine TL.pure rfl rfl ?_) | refine TL.nil ?_ | refine thenQ_normal ?_ | refine T.seq ?_ | refine T.region ?_ | refine T.block ?_ | (refine TL.isBox ?_; first | (refine TL.boxA rfl rfl ?_; intro bk w' hg hbk hsz hsz')) | (refine TL.isAlloc ?_; first | (refine TL.alloc rfl rfl ?_; intro bk w' hg hbk hsz hsz')))
  rename_i b1 w1 gg1 k1 s1 t1 b2 w2 gg2 k2 s2 t2
  have k3 : Blk w' bk 75 [I1 0, I1 0, I1 0, I1 0, I1 0, I1 0, I1 0, I1 0, I1 0, I1 0] := hbk
  clear hbk
  refine T.loop (S := Nat) (fun i => [(5, .int .i64 (i : Int)), (2, .pointer (some ⟨b1, 0, none⟩)), (3, .pointer (some ⟨b2, 0, none⟩)), (4, .pointer (some ⟨bk, 0, none⟩))])
    (fun i v => i ≤ 10 ∧ Blk v b1 75 (wL (updL xs (subW xs ys) i)) ∧ Blk v b2 75 (wL ys) ∧ Blk v bk 75 [I1 0, I1 0, I1 0, I1 0, I1 0, I1 0, I1 0, I1 0, I1 0, I1 0] ∧ Grow w v) (fun i => 10 - i) 0 ⟨rfl, rfl, rfl, rfl, trivial⟩
    ⟨by omega, by rw [updL_0 lx]; exact yB, yB, k3, yG⟩ ?_
  have := gg1.2
  have := gg2.2
  have hw1 : w.heap.size ≤ b1 := by omega
  have hw3 : w.heap.size ≤ bk := by omega
  have ne12 : b1 ≠ b2 := by omega
  have ne13 : b1 ≠ bk := by omega
  have ne23 : b2 ≠ bk := by omega
  clear k1 k2 k3 gg1 gg2 hg s1 t1 s2 t2 hsz hsz'
  rintro i v ⟨hi, m1, m2, m3, hG⟩
  have n1 := m1.lt
  have n2 := m2.lt
  have n3 := m3.lt
  rcases Nat.lt_or_ge i 10 with hlt | hge
  · have g1 := hx.gd i
    have g2 := hy.gd i
    have g3 := pj_le i
    have g4 := sub_ok hy i
    have lu := updL_len xs (subW xs ys) i
    have eu := updL_at xs (subW xs ys) hlt
    have hza : gd (subW xs ys) i = gd xs i + 4 * pj i - gd ys i := subW_gd _ _ hlt
    have hload : (wL (updL xs (subW xs ys) i))[i]? = some (I1 (gd xs i)) := by rw [wL_at (by omega), eu]
    have hbl := bitsN_le i
    have hpw : 1 * 2 ^ bitsN i < 9223372036854775808 ∧ 33554432 ≤ 1 * 2 ^ bitsN i := by rcases pow_bits i with h | h <;> rw [h] <;> omega
    obtain ⟨hpw1, hpw2⟩ := hpw
    rcases Nat.eq_zero_or_pos i with h0 | h0
    · have hpj : 1 * 2 ^ bitsN i - 1 - 18 = pj i := by subst h0; rfl
      repeat (first | (refine TL.isMove ?_; first | refine TL.pure rfl rfl ?_) | (refine TL.isAsg ?_; first | refine TL.pure rfl rfl ?_) | (refine TL.isSub ?_; first | refine TL.subN rfl rfl (by first | omega) (by first | omega) rfl ?_) | refine TL.nil ?_ | refine thenQ_normal ?_ | refine T.seq ?_ | refine T.region ?_ | refine T.block ?_ | (refine TL.isShl ?_; first | refine TL.shlN rfl rfl (by first | omega) (by first | omega) rfl ?_) | (refine TL.isBin ?_; first | refine TL.pureT rfl yD rfl ?_) | refine T.cond_true rfl ?_ | refine T.skip ?_ | (refine TL.isFn 97 ?_; refine TL.call rfl (bits_c i (by omega) _) rfl ?_; rintro _ _ ⟨rfl, rfl⟩))
      rw [hpj]
      apply T.any 11 [is _, is _, is _, is _, is _, is _, is _, is _, is _, is _, is _]; (· first | kernel_rfl); (· ((repeat' (first | exact allDo_end | refine allDo_cons ?_ ?_)); (iterate 11 (· ((first | refine does_mk0 rfl rfl rfl ?_); ( intro wq _ _ hgq; (repeat (refine need_cons rfl rfl ?_; intro vq hvq; try (obtain rfl := hvq))); (refine need_nil ?_)); (repeat (first | (refine TL.isMove ?_; first | refine TL.pure rfl rfl ?_) | (refine TL.isIndex ?_; first | refine TL.indexA1 rfl rfl (by first | omega) rfl ?_) | (refine TL.isAdd ?_; first | refine TL.addN rfl rfl (by first | omega) rfl ?_) | (refine TL.isSub ?_; first | refine TL.subN rfl rfl (by first | omega) (by first | omega) rfl ?_) | (refine TL.isMul ?_; first | refine TL.mulN rfl rfl (by first | omega) rfl ?_) | refine TL.nil ?_ | (refine TL.isLoad ?_; first | refine TL.load1 rfl (Blk.cell yB hload) rfl ?_ | refine TL.load1 rfl (Blk.cell yB (wL_at (by omega))) rfl ?_))); first | exact one_end rfl yG rfl))))); (rintro _ _ _ hgr _ _; (repeat (refine need_cons rfl rfl ?_; intro vq hvq; try (obtain rfl := hvq))); (refine need_nil ?_))
      repeat (first | (refine TL.isIndex ?_; first | refine TL.indexA1 rfl rfl (by first | omega) rfl ?_))
      refine TL.storeS rfl rfl yB (by exact rfl) (by rw [wL_len]; omega) ?_
      intro w3 hu3 hbk3 hsz3
      rw [← hza, wL_set, updL_set _ _ hlt] at hbk3
      repeat (first | (refine TL.isMove ?_; first | refine TL.pure rfl rfl ?_) | (refine TL.isAsg ?_; first | refine TL.pure rfl rfl ?_) | (refine TL.isAdd ?_; first | refine TL.addN rfl rfl (by first | omega) rfl ?_) | refine TL.nil ?_ | refine thenQ_normal ?_ | refine T.region ?_ | refine blockQ_normal ?_)
      exact loopQ_normal (i + 1) ⟨rfl, rfl, rfl, rfl, trivial⟩ ⟨by omega, hbk3, yB, yB, yG⟩ (by omega)
    · have hpj : 1 * 2 ^ bitsN i - 1 = pj i := by unfold pj; rw [if_neg (by omega), Nat.one_mul]
      repeat (first | (refine TL.isMove ?_; first | refine TL.pure rfl rfl ?_) | (refine TL.isAsg ?_; first | refine TL.pure rfl rfl ?_) | (refine TL.isSub ?_; first | refine TL.subN rfl rfl (by first | omega) (by first | omega) rfl ?_) | refine TL.nil ?_ | refine thenQ_normal ?_ | refine T.seq ?_ | refine T.region ?_ | refine T.block ?_ | (refine TL.isShl ?_; first | refine TL.shlN rfl rfl (by first | omega) (by first | omega) rfl ?_) | (refine TL.isBin ?_; first | refine TL.pureT rfl yD rfl ?_ | refine TL.pureF rfl yD rfl ?_) | refine T.cond_true rfl ?_ | refine T.cond_false rfl ?_ | refine T.skip ?_ | (refine TL.isFn 97 ?_; refine TL.call rfl (bits_c i (by omega) _) rfl ?_; rintro _ _ ⟨rfl, rfl⟩))
      rw [hpj]
      apply T.any 11 [is _, is _, is _, is _, is _, is _, is _, is _, is _, is _, is _]; (· first | kernel_rfl); (· ((repeat' (first | exact allDo_end | refine allDo_cons ?_ ?_)); (iterate 11 (· ((first | refine does_mk0 rfl rfl rfl ?_); ( intro wq _ _ hgq; (repeat (refine need_cons rfl rfl ?_; intro vq hvq; try (obtain rfl := hvq))); (refine need_nil ?_)); (repeat (first | (refine TL.isMove ?_; first | refine TL.pure rfl rfl ?_) | (refine TL.isIndex ?_; first | refine TL.indexA1 rfl rfl (by first | omega) rfl ?_) | (refine TL.isAdd ?_; first | refine TL.addN rfl rfl (by first | omega) rfl ?_) | (refine TL.isSub ?_; first | refine TL.subN rfl rfl (by first | omega) (by first | omega) rfl ?_) | (refine TL.isMul ?_; first | refine TL.mulN rfl rfl (by first | omega) rfl ?_) | refine TL.nil ?_ | (refine TL.isLoad ?_; first | refine TL.load1 rfl (Blk.cell yB hload) rfl ?_ | refine TL.load1 rfl (Blk.cell yB (wL_at (by omega))) rfl ?_))); first | exact one_end rfl yG rfl))))); (rintro _ _ _ hgr _ _; (repeat (refine need_cons rfl rfl ?_; intro vq hvq; try (obtain rfl := hvq))); (refine need_nil ?_))
      repeat (first | (refine TL.isIndex ?_; first | refine TL.indexA1 rfl rfl (by first | omega) rfl ?_))
      refine TL.storeS rfl rfl yB (by exact rfl) (by rw [wL_len]; omega) ?_
      intro w3 hu3 hbk3 hsz3
      rw [← hza, wL_set, updL_set _ _ hlt] at hbk3
      repeat (first | (refine TL.isMove ?_; first | refine TL.pure rfl rfl ?_) | (refine TL.isAsg ?_; first | refine TL.pure rfl rfl ?_) | (refine TL.isAdd ?_; first | refine TL.addN rfl rfl (by first | omega) rfl ?_) | refine TL.nil ?_ | refine thenQ_normal ?_ | refine T.region ?_ | refine blockQ_normal ?_)
      exact loopQ_normal (i + 1) ⟨rfl, rfl, rfl, rfl, trivial⟩ ⟨by omega, hbk3, yB, yB, yG⟩ (by omega)
  · obtain rfl : i = 10 := by omega
    rw [updL_10 lz] at m1
    repeat (first | (refine TL.isMove ?_; first | refine TL.pure rfl rfl ?_) | refine TL.nil ?_ | refine thenQ_normal ?_ | refine T.seq ?_ | refine T.region ?_ | (refine TL.isBin ?_; first | refine TL.pureF rfl yD rfl ?_) | refine T.cond_false rfl ?_ | refine T.ret ?_ | refine T.exit ?_ | refine thenQ_exit ?_ | refine blockQ_hit ?_ | refine loopQ_exit ?_ | (refine TL.isLoad ?_; refine TL.loadW rfl yB (by rw [yz]; rfl) rfl ?_) | (refine TL.isFn 96 ?_; refine TL.call rfl (hcar _) rfl ?_; rintro _ _ ⟨rfl, hgc⟩) | (refine TL.isStore ?_; refine TL.storeWh rfl rfl yB (by rw [yp]; rfl) (by exact rfl) (wL_one _) ?_; intro w' hu hbk hsz))
    exact retC rfl (load_whole (by assumption) (by rw [yp]; rfl)) ⟨_, rfl, rfl, yG⟩
theorem prod_lt {xs ys : List Nat} (hx : Good xs) (hy : Good ys) (i k : Nat) : gd xs i * gd ys k < 9007199254740992 := by
  have h1 := hx.gd i
  have h2 := hy.gd k
  have h3 : gd xs i * gd ys k ≤ 67109119 * 67109119 := Nat.mul_le_mul (by omega) (by omega)
  omega
set_option maxHeartbeats 8000000 in
set_option maxRecDepth 10000 in
theorem times_w (xs ys : List Nat) (hx : Good xs) (hy : Good ys) (w : World) :
    Calls Try.prog 78 #[tenV xs, tenV ys] w (Ret fun v w' => v = tenV (timesW xs ys) ∧ Grow w w') := by
  refine V.calls (args := [_, _]) Try.func78 rfl Try.ntmps78 rfl rfl ?_
  have lx := hx.len
  have ly := hy.len
  have hcar := carry_c (allW xs ys 10) (allW_len _ _ _) (bd_good (B := 2305843009213693952) (by decide) (allW_lt hx hy))
  have hcar2 := carry_c (carryL (allW xs ys 10)) (carry_len (allW_len _ _ _)) (bd_good (B := 4398046511104) (by decide) (carry2_good (allW_len _ _ _) (allW_lt hx hy)).1)
  have et : timesW xs ys = carryL (carryL (allW xs ys 10)) := by unfold timesW; rfl
  rw [← et] at hcar2
  have yz : (wL (allW xs ys 10)).length = 10 := by rw [wL_len]; exact allW_len _ _ _
  have yp : (wL (timesW xs ys)).length = 10 := by rw [wL_len, et]; exact carry_len (carry_len (allW_len _ _ _))
  repeat (first | (refine TL.isAsg ?_; first | refine TL.pure rfl rfl ?_) | refine TL.nil ?_ | refine thenQ_normal ?_ | refine T.seq ?_ | refine T.region ?_ | refine T.block ?_ | (refine TL.isBox ?_; first | (refine TL.boxA rfl rfl ?_; intro bk w' hg hbk hsz hsz')) | (refine TL.isAlloc ?_; first | (refine TL.alloc rfl rfl ?_; intro bk w' hg hbk hsz hsz')))
  rename_i b1 w1 gg1 k1 s1 t1 b2 w2 gg2 k2 s2 t2 b4 w4 gg4 k4 s4 t4
  have k3 : Blk w' bk 75 (wL (allW xs ys 0)) := by unfold allW; rw [wL_zero]; exact hbk
  have k4' : Blk w' b4 75 [I1 0, I1 0, I1 0, I1 0, I1 0, I1 0, I1 0, I1 0, I1 0, I1 0] := by exact yB
  clear hbk
  refine T.loop (S := Nat) (fun i => [(6, .int .i64 (i : Int)), (2, .pointer (some ⟨b1, 0, none⟩)), (3, .pointer (some ⟨b2, 0, none⟩)), (5, .pointer (some ⟨bk, 0, none⟩)), (4, .pointer (some ⟨b4, 0, none⟩))])
    (fun i v => i ≤ 10 ∧ Blk v b1 75 (wL xs) ∧ Blk v b2 75 (wL ys) ∧ Blk v bk 75 (wL (allW xs ys i)) ∧ Blk v b4 75 [I1 0, I1 0, I1 0, I1 0, I1 0, I1 0, I1 0, I1 0, I1 0, I1 0] ∧ Grow w v) (fun i => 10 - i) 0 ⟨rfl, rfl, rfl, rfl, rfl, trivial⟩
    ⟨by omega, yB, yB, k3, k4', yG⟩ ?_
  have := gg1.2
  have := gg2.2
  have := gg4.2
  have hw4 : w.heap.size ≤ b4 := by omega
  have hw3 : w.heap.size ≤ bk := by omega
  have ne13 : b1 ≠ bk := by omega
  have ne23 : b2 ≠ bk := by omega
  have ne43 : b4 ≠ bk := by omega
  clear k1 k2 k3 k4 k4' gg1 gg2 gg4 hg s1 t1 s2 t2 s4 t4 hsz hsz'
  rintro i v ⟨hi, m1, m2, m3, m4, hG⟩
  have n1 := m1.lt
  have n2 := m2.lt
  have n3 := m3.lt
  have n4 := m4.lt
  rcases Nat.lt_or_ge i 10 with hlt | hge
  · repeat (first | (refine TL.isMove ?_; first | refine TL.pure rfl rfl ?_) | (refine TL.isAsg ?_; first | refine TL.pure rfl rfl ?_) | refine TL.nil ?_ | refine thenQ_normal ?_ | refine T.seq ?_ | refine T.region ?_ | refine T.block ?_ | (refine TL.isBin ?_; first | refine TL.pureT rfl yD rfl ?_) | refine T.cond_true rfl ?_ | refine T.skip ?_)
    refine T.loop (S := Nat) (fun k => [(7, .int .i64 (k : Int)), (6, .int .i64 (i : Int)), (2, .pointer (some ⟨b1, 0, none⟩)), (3, .pointer (some ⟨b2, 0, none⟩)), (5, .pointer (some ⟨bk, 0, none⟩)), (4, .pointer (some ⟨b4, 0, none⟩))])
      (fun k v => k ≤ 10 ∧ Blk v b1 75 (wL xs) ∧ Blk v b2 75 (wL ys) ∧ Blk v bk 75 (wL (rowW xs ys i k (allW xs ys i))) ∧ Blk v b4 75 [I1 0, I1 0, I1 0, I1 0, I1 0, I1 0, I1 0, I1 0, I1 0, I1 0] ∧ Grow w v) (fun k => 10 - k) 0 ⟨rfl, rfl, rfl, rfl, rfl, rfl, trivial⟩
      ⟨by omega, yB, yB, by unfold rowW; exact m3, yB, yG⟩ ?_
    clear m1 m2 m3 m4 hG n1 n2 n3 n4 v
    rintro k v ⟨hk, m1, m2, m3, m4, hG⟩
    have n1 := m1.lt
    have n2 := m2.lt
    have n3 := m3.lt
    have n4 := m4.lt
    rcases Nat.lt_or_ge k 10 with hkl | hkl
    · have lr := rowW_len xs ys i (allW_len xs ys i) k
      have hle := (rowW_le hx hy hlt (allW_len xs ys i) (allW_le hx hy i (by omega)) k (by omega)).1 ((i + k) % 10)
      have hpl := prod_lt hx hy i k
      have hstep : rowW xs ys i (k + 1) (allW xs ys i) = (rowW xs ys i k (allW xs ys i)).set ((i + k) % 10) (gd (rowW xs ys i k (allW xs ys i)) ((i + k) % 10) + termW xs ys i k) := by
        rw [rowW]
      generalize rowW xs ys i k (allW xs ys i) = out at *
      have hterm : termW xs ys i k = (if 9 < i + k then 19 * (if i % 2 = 1 ∧ k % 2 = 1 then 2 * (gd xs i * gd ys k) else gd xs i * gd ys k) else (if i % 2 = 1 ∧ k % 2 = 1 then 2 * (gd xs i * gd ys k) else gd xs i * gd ys k)) := by unfold termW; rfl
      have finish : ∀ v' t, t = termW xs ys i k → ∀ {v1}, Grow v v1 → Upd bk v1 v' → Blk v' bk 75 ((wL out).set ((i + k) % 10) (I1 (gd out ((i + k) % 10) + t))) → Blk v' b1 75 (wL xs) ∧ Blk v' b2 75 (wL ys) ∧ Blk v' bk 75 (wL (rowW xs ys i (k + 1) (allW xs ys i))) ∧ Blk v' b4 75 [I1 0, I1 0, I1 0, I1 0, I1 0, I1 0, I1 0, I1 0, I1 0, I1 0] ∧ Grow w v' := by
        rintro v' t rfl v1 hgv hu hb
        rw [wL_set, ← hstep] at hb
        exact ⟨yB, yB, hb, yB, yG⟩
      rcases Nat.lt_or_ge 9 (i + k) with hik | hik
      · rcases Nat.mod_two_eq_zero_or_one i with hpi | hpi
        · have hodd : ¬ (i % 2 = 1 ∧ k % 2 = 1) := by omega
          rw [if_pos hik, if_neg hodd] at hterm
          repeat (first | (refine TL.isMove ?_; first | refine TL.pure rfl rfl ?_) | refine TL.nil ?_ | refine thenQ_normal ?_ | refine T.seq ?_ | refine T.region ?_ | refine T.block ?_ | (refine TL.isBin ?_; first | refine TL.pureT rfl yD rfl ?_) | refine T.cond_true rfl ?_ | refine T.skip ?_)
          apply T.any 7 [is _, is _, is _, is _, is _, is _, is _]; (· first | kernel_rfl); (· ((repeat' (first | exact allDo_end | refine allDo_cons ?_ ?_)); (iterate 7 (· ((first | refine does_mk0 rfl rfl rfl ?_); ( intro wq _ _ hgq; (repeat (refine need_cons rfl rfl ?_; intro vq hvq; try (obtain rfl := hvq))); (refine need_nil ?_)); (repeat (first | (refine TL.isMove ?_; first | refine TL.pure rfl rfl ?_) | (refine TL.isIndex ?_; first | refine TL.indexA1 rfl rfl (by first | omega) rfl ?_) | (refine TL.isMul ?_; first | refine TL.mulN rfl rfl (by first | omega) rfl ?_) | refine TL.nil ?_ | (refine TL.isLoad ?_; refine TL.load1 rfl (Blk.cell yB (wL_at (by omega))) rfl ?_))); first | exact one_end rfl yG rfl))))); (rintro _ _ _ hgr _ _; (repeat (refine need_cons rfl rfl ?_; intro vq hvq; try (obtain rfl := hvq))); (refine need_nil ?_))
          repeat (first | (refine TL.isGuard ?_; first | refine TL.guard_skip rfl rfl rfl ?_) | (refine TL.isMove ?_; first | refine TL.pure rfl rfl ?_) | (refine TL.isAsg ?_; first | refine TL.pure rfl rfl ?_) | (refine TL.isIndex ?_; first | refine TL.indexA1 rfl rfl (by first | omega) rfl ?_) | (refine TL.isAdd ?_; first | refine TL.addN rfl rfl (by first | omega) rfl ?_) | (refine TL.isMul ?_; first | refine TL.mulN rfl rfl (by first | omega) rfl ?_) | refine TL.nil ?_ | refine thenQ_normal ?_ | refine T.seq ?_ | refine T.region ?_ | (refine TL.isRem ?_; first | refine TL.remU rfl rfl (by omega) rfl ?_) | (refine TL.isBin ?_; first | refine TL.pureT rfl yD rfl ?_ | refine TL.pureF rfl yD rfl ?_) | refine T.cond_true rfl ?_ | refine T.cond_false rfl ?_ | refine T.skip ?_ | refine TL.pure rfl rfl ?_ | (refine TL.isLoad ?_; refine TL.load1 rfl (Blk.cell yB (wL_at (by omega))) rfl ?_))
          refine TL.storeS rfl rfl yB (by exact rfl) (by rw [wL_len]; omega) ?_
          intro w3 hu3 hbk3 hsz3
          have hfin := finish w3 _ hterm.symm hgr hu3 hbk3
          repeat (first | (refine TL.isMove ?_; first | refine TL.pure rfl rfl ?_) | (refine TL.isAsg ?_; first | refine TL.pure rfl rfl ?_) | (refine TL.isAdd ?_; first | refine TL.addN rfl rfl (by first | omega) rfl ?_) | refine TL.nil ?_ | refine thenQ_normal ?_ | refine T.region ?_ | refine blockQ_normal ?_)
          exact loopQ_normal (k + 1) ⟨rfl, rfl, rfl, rfl, rfl, rfl, trivial⟩ ⟨by omega, hfin⟩ (by omega)
        · rcases Nat.mod_two_eq_zero_or_one k with hpk | hpk
          · have hodd : ¬ (i % 2 = 1 ∧ k % 2 = 1) := by omega
            rw [if_pos hik, if_neg hodd] at hterm
            repeat (first | (refine TL.isMove ?_; first | refine TL.pure rfl rfl ?_) | refine TL.nil ?_ | refine thenQ_normal ?_ | refine T.seq ?_ | refine T.region ?_ | refine T.block ?_ | (refine TL.isBin ?_; first | refine TL.pureT rfl yD rfl ?_) | refine T.cond_true rfl ?_ | refine T.skip ?_)
            apply T.any 7 [is _, is _, is _, is _, is _, is _, is _]; (· first | kernel_rfl); (· ((repeat' (first | exact allDo_end | refine allDo_cons ?_ ?_)); (iterate 7 (· ((first | refine does_mk0 rfl rfl rfl ?_); ( intro wq _ _ hgq; (repeat (refine need_cons rfl rfl ?_; intro vq hvq; try (obtain rfl := hvq))); (refine need_nil ?_)); (repeat (first | (refine TL.isMove ?_; first | refine TL.pure rfl rfl ?_) | (refine TL.isIndex ?_; first | refine TL.indexA1 rfl rfl (by first | omega) rfl ?_) | (refine TL.isMul ?_; first | refine TL.mulN rfl rfl (by first | omega) rfl ?_) | refine TL.nil ?_ | (refine TL.isLoad ?_; refine TL.load1 rfl (Blk.cell yB (wL_at (by omega))) rfl ?_))); first | exact one_end rfl yG rfl))))); (rintro _ _ _ hgr _ _; (repeat (refine need_cons rfl rfl ?_; intro vq hvq; try (obtain rfl := hvq))); (refine need_nil ?_))
            repeat (first | (refine TL.isGuard ?_; first | refine TL.guard_run rfl rfl rfl ?_) | (refine TL.isMove ?_; first | refine TL.pure rfl rfl ?_) | (refine TL.isAsg ?_; first | refine TL.pure rfl rfl ?_) | (refine TL.isIndex ?_; first | refine TL.indexA1 rfl rfl (by first | omega) rfl ?_) | (refine TL.isAdd ?_; first | refine TL.addN rfl rfl (by first | omega) rfl ?_) | (refine TL.isMul ?_; first | refine TL.mulN rfl rfl (by first | omega) rfl ?_) | refine TL.nil ?_ | refine thenQ_normal ?_ | refine T.seq ?_ | refine T.region ?_ | (refine TL.isRem ?_; first | refine TL.remU rfl rfl (by omega) rfl ?_) | (refine TL.isBin ?_; first | refine TL.pureT rfl yD rfl ?_ | refine TL.pureF rfl yD rfl ?_) | refine T.cond_true rfl ?_ | refine T.cond_false rfl ?_ | refine T.skip ?_ | refine TL.pure rfl rfl ?_ | (refine TL.isLoad ?_; refine TL.load1 rfl (Blk.cell yB (wL_at (by omega))) rfl ?_))
            refine TL.storeS rfl rfl yB (by exact rfl) (by rw [wL_len]; omega) ?_
            intro w3 hu3 hbk3 hsz3
            have hfin := finish w3 _ hterm.symm hgr hu3 hbk3
            repeat (first | (refine TL.isMove ?_; first | refine TL.pure rfl rfl ?_) | (refine TL.isAsg ?_; first | refine TL.pure rfl rfl ?_) | (refine TL.isAdd ?_; first | refine TL.addN rfl rfl (by first | omega) rfl ?_) | refine TL.nil ?_ | refine thenQ_normal ?_ | refine T.region ?_ | refine blockQ_normal ?_)
            exact loopQ_normal (k + 1) ⟨rfl, rfl, rfl, rfl, rfl, rfl, trivial⟩ ⟨by omega, hfin⟩ (by omega)
          · have hodd : i % 2 = 1 ∧ k % 2 = 1 := by omega
            rw [if_pos hik, if_pos hodd] at hterm
            repeat (first | (refine TL.isMove ?_; first | refine TL.pure rfl rfl ?_) | refine TL.nil ?_ | refine thenQ_normal ?_ | refine T.seq ?_ | refine T.region ?_ | refine T.block ?_ | (refine TL.isBin ?_; first | refine TL.pureT rfl yD rfl ?_) | refine T.cond_true rfl ?_ | refine T.skip ?_)
            apply T.any 7 [is _, is _, is _, is _, is _, is _, is _]; (· first | kernel_rfl); (· ((repeat' (first | exact allDo_end | refine allDo_cons ?_ ?_)); (iterate 7 (· ((first | refine does_mk0 rfl rfl rfl ?_); ( intro wq _ _ hgq; (repeat (refine need_cons rfl rfl ?_; intro vq hvq; try (obtain rfl := hvq))); (refine need_nil ?_)); (repeat (first | (refine TL.isMove ?_; first | refine TL.pure rfl rfl ?_) | (refine TL.isIndex ?_; first | refine TL.indexA1 rfl rfl (by first | omega) rfl ?_) | (refine TL.isMul ?_; first | refine TL.mulN rfl rfl (by first | omega) rfl ?_) | refine TL.nil ?_ | (refine TL.isLoad ?_; refine TL.load1 rfl (Blk.cell yB (wL_at (by omega))) rfl ?_))); first | exact one_end rfl yG rfl))))); (rintro _ _ _ hgr _ _; (repeat (refine need_cons rfl rfl ?_; intro vq hvq; try (obtain rfl := hvq))); (refine need_nil ?_))
            repeat (first | (refine TL.isGuard ?_; first | refine TL.guard_run rfl rfl rfl ?_) | (refine TL.isMove ?_; first | refine TL.pure rfl rfl ?_) | (refine TL.isAsg ?_; first | refine TL.pure rfl rfl ?_) | (refine TL.isIndex ?_; first | refine TL.indexA1 rfl rfl (by first | omega) rfl ?_) | (refine TL.isAdd ?_; first | refine TL.addN rfl rfl (by first | omega) rfl ?_) | (refine TL.isMul ?_; first | refine TL.mulN rfl rfl (by first | omega) rfl ?_) | refine TL.nil ?_ | refine thenQ_normal ?_ | refine T.seq ?_ | refine T.region ?_ | (refine TL.isRem ?_; first | refine TL.remU rfl rfl (by omega) rfl ?_) | (refine TL.isBin ?_; first | refine TL.pureT rfl yD rfl ?_) | refine T.cond_true rfl ?_ | refine TL.pure rfl rfl ?_ | (refine TL.isLoad ?_; refine TL.load1 rfl (Blk.cell yB (wL_at (by omega))) rfl ?_))
            refine TL.storeS rfl rfl yB (by exact rfl) (by rw [wL_len]; omega) ?_
            intro w3 hu3 hbk3 hsz3
            have hfin := finish w3 _ hterm.symm hgr hu3 hbk3
            repeat (first | (refine TL.isMove ?_; first | refine TL.pure rfl rfl ?_) | (refine TL.isAsg ?_; first | refine TL.pure rfl rfl ?_) | (refine TL.isAdd ?_; first | refine TL.addN rfl rfl (by first | omega) rfl ?_) | refine TL.nil ?_ | refine thenQ_normal ?_ | refine T.region ?_ | refine blockQ_normal ?_)
            exact loopQ_normal (k + 1) ⟨rfl, rfl, rfl, rfl, rfl, rfl, trivial⟩ ⟨by omega, hfin⟩ (by omega)
      · rcases Nat.mod_two_eq_zero_or_one i with hpi | hpi
        · have hodd : ¬ (i % 2 = 1 ∧ k % 2 = 1) := by omega
          rw [if_neg (Nat.not_lt.2 hik), if_neg hodd] at hterm
          repeat (first | (refine TL.isMove ?_; first | refine TL.pure rfl rfl ?_) | refine TL.nil ?_ | refine thenQ_normal ?_ | refine T.seq ?_ | refine T.region ?_ | refine T.block ?_ | (refine TL.isBin ?_; first | refine TL.pureT rfl yD rfl ?_) | refine T.cond_true rfl ?_ | refine T.skip ?_)
          apply T.any 7 [is _, is _, is _, is _, is _, is _, is _]; (· first | kernel_rfl); (· ((repeat' (first | exact allDo_end | refine allDo_cons ?_ ?_)); (iterate 7 (· ((first | refine does_mk0 rfl rfl rfl ?_); ( intro wq _ _ hgq; (repeat (refine need_cons rfl rfl ?_; intro vq hvq; try (obtain rfl := hvq))); (refine need_nil ?_)); (repeat (first | (refine TL.isMove ?_; first | refine TL.pure rfl rfl ?_) | (refine TL.isIndex ?_; first | refine TL.indexA1 rfl rfl (by first | omega) rfl ?_) | (refine TL.isMul ?_; first | refine TL.mulN rfl rfl (by first | omega) rfl ?_) | refine TL.nil ?_ | (refine TL.isLoad ?_; refine TL.load1 rfl (Blk.cell yB (wL_at (by omega))) rfl ?_))); first | exact one_end rfl yG rfl))))); (rintro _ _ _ hgr _ _; (repeat (refine need_cons rfl rfl ?_; intro vq hvq; try (obtain rfl := hvq))); (refine need_nil ?_))
          repeat (first | (refine TL.isGuard ?_; first | refine TL.guard_skip rfl rfl rfl ?_) | (refine TL.isMove ?_; first | refine TL.pure rfl rfl ?_) | (refine TL.isAsg ?_; first | refine TL.pure rfl rfl ?_) | (refine TL.isIndex ?_; first | refine TL.indexA1 rfl rfl (by first | omega) rfl ?_) | (refine TL.isAdd ?_; first | refine TL.addN rfl rfl (by first | omega) rfl ?_) | refine TL.nil ?_ | refine thenQ_normal ?_ | refine T.seq ?_ | refine T.region ?_ | (refine TL.isRem ?_; first | refine TL.remU rfl rfl (by omega) rfl ?_) | (refine TL.isBin ?_; first | refine TL.pureF rfl yD rfl ?_) | refine T.cond_false rfl ?_ | refine T.skip ?_ | refine TL.pure rfl rfl ?_ | (refine TL.isLoad ?_; refine TL.load1 rfl (Blk.cell yB (wL_at (by omega))) rfl ?_))
          refine TL.storeS rfl rfl yB (by exact rfl) (by rw [wL_len]; omega) ?_
          intro w3 hu3 hbk3 hsz3
          have hfin := finish w3 _ hterm.symm hgr hu3 hbk3
          repeat (first | (refine TL.isMove ?_; first | refine TL.pure rfl rfl ?_) | (refine TL.isAsg ?_; first | refine TL.pure rfl rfl ?_) | (refine TL.isAdd ?_; first | refine TL.addN rfl rfl (by first | omega) rfl ?_) | refine TL.nil ?_ | refine thenQ_normal ?_ | refine T.region ?_ | refine blockQ_normal ?_)
          exact loopQ_normal (k + 1) ⟨rfl, rfl, rfl, rfl, rfl, rfl, trivial⟩ ⟨by omega, hfin⟩ (by omega)
        · rcases Nat.mod_two_eq_zero_or_one k with hpk | hpk
          · have hodd : ¬ (i % 2 = 1 ∧ k % 2 = 1) := by omega
            rw [if_neg (Nat.not_lt.2 hik), if_neg hodd] at hterm
            repeat (first | (refine TL.isMove ?_; first | refine TL.pure rfl rfl ?_) | refine TL.nil ?_ | refine thenQ_normal ?_ | refine T.seq ?_ | refine T.region ?_ | refine T.block ?_ | (refine TL.isBin ?_; first | refine TL.pureT rfl yD rfl ?_) | refine T.cond_true rfl ?_ | refine T.skip ?_)
            apply T.any 7 [is _, is _, is _, is _, is _, is _, is _]; (· first | kernel_rfl); (· ((repeat' (first | exact allDo_end | refine allDo_cons ?_ ?_)); (iterate 7 (· ((first | refine does_mk0 rfl rfl rfl ?_); ( intro wq _ _ hgq; (repeat (refine need_cons rfl rfl ?_; intro vq hvq; try (obtain rfl := hvq))); (refine need_nil ?_)); (repeat (first | (refine TL.isMove ?_; first | refine TL.pure rfl rfl ?_) | (refine TL.isIndex ?_; first | refine TL.indexA1 rfl rfl (by first | omega) rfl ?_) | (refine TL.isMul ?_; first | refine TL.mulN rfl rfl (by first | omega) rfl ?_) | refine TL.nil ?_ | (refine TL.isLoad ?_; refine TL.load1 rfl (Blk.cell yB (wL_at (by omega))) rfl ?_))); first | exact one_end rfl yG rfl))))); (rintro _ _ _ hgr _ _; (repeat (refine need_cons rfl rfl ?_; intro vq hvq; try (obtain rfl := hvq))); (refine need_nil ?_))
            repeat (first | (refine TL.isGuard ?_; first | refine TL.guard_run rfl rfl rfl ?_) | (refine TL.isMove ?_; first | refine TL.pure rfl rfl ?_) | (refine TL.isAsg ?_; first | refine TL.pure rfl rfl ?_) | (refine TL.isIndex ?_; first | refine TL.indexA1 rfl rfl (by first | omega) rfl ?_) | (refine TL.isAdd ?_; first | refine TL.addN rfl rfl (by first | omega) rfl ?_) | refine TL.nil ?_ | refine thenQ_normal ?_ | refine T.seq ?_ | refine T.region ?_ | (refine TL.isRem ?_; first | refine TL.remU rfl rfl (by omega) rfl ?_) | (refine TL.isBin ?_; first | refine TL.pureT rfl yD rfl ?_ | refine TL.pureF rfl yD rfl ?_) | refine T.cond_false rfl ?_ | refine T.skip ?_ | refine TL.pure rfl rfl ?_ | (refine TL.isLoad ?_; refine TL.load1 rfl (Blk.cell yB (wL_at (by omega))) rfl ?_))
            refine TL.storeS rfl rfl yB (by exact rfl) (by rw [wL_len]; omega) ?_
            intro w3 hu3 hbk3 hsz3
            have hfin := finish w3 _ hterm.symm hgr hu3 hbk3
            repeat (first | (refine TL.isMove ?_; first | refine TL.pure rfl rfl ?_) | (refine TL.isAsg ?_; first | refine TL.pure rfl rfl ?_) | (refine TL.isAdd ?_; first | refine TL.addN rfl rfl (by first | omega) rfl ?_) | refine TL.nil ?_ | refine thenQ_normal ?_ | refine T.region ?_ | refine blockQ_normal ?_)
            exact loopQ_normal (k + 1) ⟨rfl, rfl, rfl, rfl, rfl, rfl, trivial⟩ ⟨by omega, hfin⟩ (by omega)
          · have hodd : i % 2 = 1 ∧ k % 2 = 1 := by omega
            rw [if_neg (Nat.not_lt.2 hik), if_pos hodd] at hterm
            repeat (first | (refine TL.isMove ?_; first | refine TL.pure rfl rfl ?_) | refine TL.nil ?_ | refine thenQ_normal ?_ | refine T.seq ?_ | refine T.region ?_ | refine T.block ?_ | (refine TL.isBin ?_; first | refine TL.pureT rfl yD rfl ?_) | refine T.cond_true rfl ?_ | refine T.skip ?_)
            apply T.any 7 [is _, is _, is _, is _, is _, is _, is _]; (· first | kernel_rfl); (· ((repeat' (first | exact allDo_end | refine allDo_cons ?_ ?_)); (iterate 7 (· ((first | refine does_mk0 rfl rfl rfl ?_); ( intro wq _ _ hgq; (repeat (refine need_cons rfl rfl ?_; intro vq hvq; try (obtain rfl := hvq))); (refine need_nil ?_)); (repeat (first | (refine TL.isMove ?_; first | refine TL.pure rfl rfl ?_) | (refine TL.isIndex ?_; first | refine TL.indexA1 rfl rfl (by first | omega) rfl ?_) | (refine TL.isMul ?_; first | refine TL.mulN rfl rfl (by first | omega) rfl ?_) | refine TL.nil ?_ | (refine TL.isLoad ?_; refine TL.load1 rfl (Blk.cell yB (wL_at (by omega))) rfl ?_))); first | exact one_end rfl yG rfl))))); (rintro _ _ _ hgr _ _; (repeat (refine need_cons rfl rfl ?_; intro vq hvq; try (obtain rfl := hvq))); (refine need_nil ?_))
            repeat (first | (refine TL.isGuard ?_; first | refine TL.guard_run rfl rfl rfl ?_) | (refine TL.isMove ?_; first | refine TL.pure rfl rfl ?_) | (refine TL.isAsg ?_; first | refine TL.pure rfl rfl ?_) | (refine TL.isIndex ?_; first | refine TL.indexA1 rfl rfl (by first | omega) rfl ?_) | (refine TL.isAdd ?_; first | refine TL.addN rfl rfl (by first | omega) rfl ?_) | (refine TL.isMul ?_; first | refine TL.mulN rfl rfl (by first | omega) rfl ?_) | refine TL.nil ?_ | refine thenQ_normal ?_ | refine T.seq ?_ | refine T.region ?_ | (refine TL.isRem ?_; first | refine TL.remU rfl rfl (by omega) rfl ?_) | (refine TL.isBin ?_; first | refine TL.pureT rfl yD rfl ?_ | refine TL.pureF rfl yD rfl ?_) | refine T.cond_true rfl ?_ | refine T.cond_false rfl ?_ | refine T.skip ?_ | refine TL.pure rfl rfl ?_ | (refine TL.isLoad ?_; refine TL.load1 rfl (Blk.cell yB (wL_at (by omega))) rfl ?_))
            refine TL.storeS rfl rfl yB (by exact rfl) (by rw [wL_len]; omega) ?_
            intro w3 hu3 hbk3 hsz3
            have hfin := finish w3 _ hterm.symm hgr hu3 hbk3
            repeat (first | (refine TL.isMove ?_; first | refine TL.pure rfl rfl ?_) | (refine TL.isAsg ?_; first | refine TL.pure rfl rfl ?_) | (refine TL.isAdd ?_; first | refine TL.addN rfl rfl (by first | omega) rfl ?_) | refine TL.nil ?_ | refine thenQ_normal ?_ | refine T.region ?_ | refine blockQ_normal ?_)
            exact loopQ_normal (k + 1) ⟨rfl, rfl, rfl, rfl, rfl, rfl, trivial⟩ ⟨by omega, hfin⟩ (by omega)
    · obtain rfl : k = 10 := by omega
      have : rowW xs ys i 10 (allW xs ys i) = allW xs ys (i + 1) := by rw [allW]
      rw [this] at m3
      repeat (first | (refine TL.isMove ?_; first | refine TL.pure rfl rfl ?_) | (refine TL.isAsg ?_; first | refine TL.pure rfl rfl ?_) | (refine TL.isAdd ?_; first | refine TL.addN rfl rfl (by first | omega) rfl ?_) | refine TL.nil ?_ | refine thenQ_normal ?_ | refine T.seq ?_ | refine T.region ?_ | refine blockQ_normal ?_ | (refine TL.isBin ?_; first | refine TL.pureF rfl yD rfl ?_) | refine T.cond_false rfl ?_ | refine T.exit ?_ | refine thenQ_exit ?_ | refine blockQ_hit ?_ | refine loopQ_exit ?_)
      exact loopQ_normal (i + 1) ⟨rfl, rfl, rfl, rfl, rfl, trivial⟩ ⟨by omega, yB, yB, yB, yB, yG⟩ (by omega)
  · obtain rfl : i = 10 := by omega
    repeat (first | (refine TL.isMove ?_; first | refine TL.pure rfl rfl ?_) | refine TL.nil ?_ | refine thenQ_normal ?_ | refine T.seq ?_ | refine T.region ?_ | (refine TL.isBin ?_; first | refine TL.pureF rfl yD rfl ?_) | refine T.cond_false rfl ?_ | refine T.exit ?_ | refine thenQ_exit ?_ | refine blockQ_hit ?_ | refine loopQ_exit ?_ | (refine TL.isLoad ?_; refine TL.loadW rfl yB (by rw [yz]; rfl) rfl ?_))
    refine TL.call rfl (hcar _) rfl ?_
    rintro _ v1 ⟨rfl, hc1⟩
    refine TL.call rfl (hcar2 _) rfl ?_
    rintro _ v2 ⟨rfl, hc2⟩
    repeat (first | refine TL.nil ?_ | refine thenQ_normal ?_ | refine T.ret ?_ | (refine TL.isStore ?_; refine TL.storeWh rfl rfl yB (by rw [yp]; rfl) (by exact rfl) (wL_one _) ?_; intro w' hu hbk hsz))
    exact retC rfl (load_whole (by assumption) (by rw [yp]; rfl)) ⟨_, rfl, rfl, yG⟩
end Go.Proofs.Ytmpjigghgedjbaa
namespace Go.Proofs.Ytmpjigghgedjbaa
open Go Go.RowKit Go.V
def opnW (N : Nat) : List Nat := carryL (opL N 10 0)
theorem opn_w (N : Nat) (w : World) : Calls Try.prog 75 #[num N] w (Ret fun v w' => v = tenV (opnW N) ∧ Grow w w') := open_c N w
theorem rep_opn {N : Nat} (hN : N < 115792089237316195423570985008687907853269984665640564039457584007913129639936) : Rep (opnW N) N := rep_open hN
attribute [irreducible] opnW
theorem close_r {us : List Nat} {A : Nat} (h : Rep us A) (w : World) : Calls Try.prog 74 #[tenV us] w (Ret fun v w' => v = num (A % p25519) ∧ Grow w w') := by
  rw [← h.2]; exact close_c us h.1 w
theorem rest_r (N : Nat) (hN : N < 115792089237316195423570985008687907853269984665640564039457584007913129639936) (w : World) :
    Calls Try.prog 27 #[num N] w (Ret fun v w' => v = num (N % p25519) ∧ Grow w w') := by
  refine V.calls (args := [_]) Try.func27 rfl Try.ntmps27 rfl rfl ?_
  repeat (first | (refine TL.isLoad ?_; first | refine TL.loadW rfl yB (by exact rfl) rfl ?_) | refine TL.nil ?_ | refine thenQ_normal ?_ | refine T.seq ?_ | refine T.region ?_ | (refine TL.isStore ?_; first | (refine TL.storeWh rfl rfl yB (by exact rfl) (by exact rfl) (by exact rfl) ?_; intro w' hu hbk hsz)) | (refine TL.isBox ?_; first | (refine TL.boxA rfl rfl ?_; intro bk w' hg hbk hsz hsz')) | (refine TL.isAlloc ?_; first | (refine TL.alloc rfl rfl ?_; intro bk w' hg hbk hsz hsz')) | refine T.ret ?_ | (refine TL.isFn 75 ?_; refine TL.call rfl (opn_w N _) rfl ?_; rintro _ _ ⟨rfl, hgc⟩) | (refine TL.isFn 74 ?_; refine TL.call rfl (close_r (rep_opn hN) _) rfl ?_; rintro _ _ ⟨rfl, hgc⟩))
  exact retC rfl (load_whole (by assumption) rfl) ⟨_, rfl, rfl, yG⟩
theorem add_r (N M : Nat) (hN : N < 115792089237316195423570985008687907853269984665640564039457584007913129639936) (hM : M < 115792089237316195423570985008687907853269984665640564039457584007913129639936) (w : World) :
    Calls Try.prog 31 #[num N, num M] w (Ret fun v w' => v = num ((N + M) % p25519) ∧ Grow w w') := by
  refine V.calls (args := [_, _]) Try.func31 rfl Try.ntmps31 rfl rfl ?_
  have rN := rep_opn hN
  have rM := rep_opn hM
  repeat (first | refine TL.nil ?_ | refine thenQ_normal ?_ | refine T.seq ?_ | refine T.region ?_ | (refine TL.isBox ?_; first | (refine TL.boxA rfl rfl ?_; intro bk w' hg hbk hsz hsz')) | (refine TL.isAlloc ?_; first | (refine TL.alloc rfl rfl ?_; intro bk w' hg hbk hsz hsz')))
  apply T.any 6 [is _, is _, is _, is _, is _, is _]; (· first | kernel_rfl); (· ((repeat' (first | exact allDo_end | refine allDo_cons ?_ ?_)); (iterate 6 (· ((first | refine does_mk0 rfl rfl rfl ?_); ( intro wq _ _ hgq; (repeat (refine need_cons rfl rfl ?_; intro vq hvq; try (obtain rfl := hvq))); (refine need_nil ?_)); (repeat (first | (refine TL.isLoad ?_; first | refine TL.loadW rfl yB (by exact rfl) rfl ?_) | refine TL.nil ?_ | (refine TL.isFn 75 ?_; refine TL.call rfl (opn_w _ _) rfl ?_; rintro _ _ ⟨rfl, hgc⟩) | (refine TL.isFn 76 ?_; refine TL.call rfl (plus_w _ _ rN.1 rM.1 _) rfl ?_; rintro _ _ ⟨rfl, hgc⟩) | (refine TL.isFn 74 ?_; refine TL.call rfl (close_r (rep_plus rN rM) _) rfl ?_; rintro _ _ ⟨rfl, hgc⟩))); first | exact one_end rfl yG rfl))))); (rintro _ _ _ hgr _ _; (repeat (refine need_cons rfl rfl ?_; intro vq hvq; try (obtain rfl := hvq))); (refine need_nil ?_))
  repeat (first | refine TL.nil ?_ | refine thenQ_normal ?_ | (refine TL.isStore ?_; first | (refine TL.storeWh rfl rfl yB (by exact rfl) (by exact rfl) (by exact rfl) ?_; intro w' hu hbk hsz)) | refine T.ret ?_)
  exact retC rfl (load_whole (by assumption) rfl) ⟨_, rfl, rfl, yG⟩
theorem sub_r (N M : Nat) (hN : N < 115792089237316195423570985008687907853269984665640564039457584007913129639936) (hM : M < 115792089237316195423570985008687907853269984665640564039457584007913129639936) (w : World) :
    Calls Try.prog 33 #[num N, num M] w (Ret fun v w' => v = num ((N + (p25519 - M % p25519)) % p25519) ∧ Grow w w') := by
  refine V.calls (args := [_, _]) Try.func33 rfl Try.ntmps33 rfl rfl ?_
  have rN := rep_opn hN
  have rM := rep_opn hM
  repeat (first | refine TL.nil ?_ | refine thenQ_normal ?_ | refine T.seq ?_ | refine T.region ?_ | (refine TL.isBox ?_; first | (refine TL.boxA rfl rfl ?_; intro bk w' hg hbk hsz hsz')) | (refine TL.isAlloc ?_; first | (refine TL.alloc rfl rfl ?_; intro bk w' hg hbk hsz hsz')))
  apply T.any 6 [is _, is _, is _, is _, is _, is _]; (· first | kernel_rfl); (· ((repeat' (first | exact allDo_end | refine allDo_cons ?_ ?_)); (iterate 6 (· ((first | refine does_mk0 rfl rfl rfl ?_); ( intro wq _ _ hgq; (repeat (refine need_cons rfl rfl ?_; intro vq hvq; try (obtain rfl := hvq))); (refine need_nil ?_)); (repeat (first | (refine TL.isLoad ?_; first | refine TL.loadW rfl yB (by exact rfl) rfl ?_) | refine TL.nil ?_ | (refine TL.isFn 75 ?_; refine TL.call rfl (opn_w _ _) rfl ?_; rintro _ _ ⟨rfl, hgc⟩) | (refine TL.isFn 77 ?_; refine TL.call rfl (minus_w _ _ rN.1 rM.1 _) rfl ?_; rintro _ _ ⟨rfl, hgc⟩) | (refine TL.isFn 74 ?_; refine TL.call rfl (close_r (rep_minus rN rM) _) rfl ?_; rintro _ _ ⟨rfl, hgc⟩))); first | exact one_end rfl yG rfl))))); (rintro _ _ _ hgr _ _; (repeat (refine need_cons rfl rfl ?_; intro vq hvq; try (obtain rfl := hvq))); (refine need_nil ?_))
  repeat (first | refine TL.nil ?_ | refine thenQ_normal ?_ | (refine TL.isStore ?_; first | (refine TL.storeWh rfl rfl yB (by exact rfl) (by exact rfl) (by exact rfl) ?_; intro w' hu hbk hsz)) | refine T.ret ?_)
  exact retC rfl (load_whole (by assumption) rfl) ⟨_, rfl, rfl, yG⟩
theorem mul_r (N M : Nat) (hN : N < 115792089237316195423570985008687907853269984665640564039457584007913129639936) (hM : M < 115792089237316195423570985008687907853269984665640564039457584007913129639936) (w : World) :
    Calls Try.prog 35 #[num N, num M] w (Ret fun v w' => v = num (N * M % p25519) ∧ Grow w w') := by
  refine V.calls (args := [_, _]) Try.func35 rfl Try.ntmps35 rfl rfl ?_
  have rN := rep_opn hN
  have rM := rep_opn hM
  repeat (first | refine TL.nil ?_ | refine thenQ_normal ?_ | refine T.seq ?_ | refine T.region ?_ | (refine TL.isBox ?_; first | (refine TL.boxA rfl rfl ?_; intro bk w' hg hbk hsz hsz')) | (refine TL.isAlloc ?_; first | (refine TL.alloc rfl rfl ?_; intro bk w' hg hbk hsz hsz')))
  apply T.any 6 [is _, is _, is _, is _, is _, is _]; (· first | kernel_rfl); (· ((repeat' (first | exact allDo_end | refine allDo_cons ?_ ?_)); (iterate 6 (· ((first | refine does_mk0 rfl rfl rfl ?_); ( intro wq _ _ hgq; (repeat (refine need_cons rfl rfl ?_; intro vq hvq; try (obtain rfl := hvq))); (refine need_nil ?_)); (repeat (first | (refine TL.isLoad ?_; first | refine TL.loadW rfl yB (by exact rfl) rfl ?_) | refine TL.nil ?_ | (refine TL.isFn 75 ?_; refine TL.call rfl (opn_w _ _) rfl ?_; rintro _ _ ⟨rfl, hgc⟩) | (refine TL.isFn 78 ?_; refine TL.call rfl (times_w _ _ rN.1 rM.1 _) rfl ?_; rintro _ _ ⟨rfl, hgc⟩) | (refine TL.isFn 74 ?_; refine TL.call rfl (close_r (rep_times rN rM) _) rfl ?_; rintro _ _ ⟨rfl, hgc⟩))); first | exact one_end rfl yG rfl))))); (rintro _ _ _ hgr _ _; (repeat (refine need_cons rfl rfl ?_; intro vq hvq; try (obtain rfl := hvq))); (refine need_nil ?_))
  repeat (first | refine TL.nil ?_ | refine thenQ_normal ?_ | (refine TL.isStore ?_; first | (refine TL.storeWh rfl rfl yB (by exact rfl) (by exact rfl) (by exact rfl) ?_; intro w' hu hbk hsz)) | refine T.ret ?_)
  exact retC rfl (load_whole (by assumption) rfl) ⟨_, rfl, rfl, yG⟩
theorem neg_r (N : Nat) (hN : N < 115792089237316195423570985008687907853269984665640564039457584007913129639936) (w : World) :
    Calls Try.prog 34 #[num N] w (Ret fun v w' => v = num ((p25519 - N % p25519) % p25519) ∧ Grow w w') := by
  refine V.calls (args := [_]) Try.func34 rfl Try.ntmps34 rfl rfl ?_
  have e := sub_r 0 N (by decide) hN
  rw [Nat.zero_add] at e
  repeat (first | (refine TL.isLoad ?_; first | refine TL.loadW rfl yB (by exact rfl) rfl ?_) | refine TL.nil ?_ | refine thenQ_normal ?_ | refine T.seq ?_ | refine T.region ?_ | (refine TL.isBox ?_; first | (refine TL.boxA rfl rfl ?_; intro bk w' hg hbk hsz hsz')) | (refine TL.isAlloc ?_; first | (refine TL.alloc rfl rfl ?_; intro bk w' hg hbk hsz hsz')) | (refine TL.isBuild ?_; first | refine TL.buildArr rfl rfl rfl ?_))
  refine TL.call rfl (e _) rfl ?_
  rintro _ _ ⟨rfl, hgc⟩
  repeat (first | refine TL.nil ?_ | refine thenQ_normal ?_ | (refine TL.isStore ?_; first | (refine TL.storeWh rfl rfl yB (by exact rfl) (by exact rfl) (by exact rfl) ?_; intro w' hu hbk hsz)) | refine T.ret ?_)
  exact retC rfl (load_whole (by assumption) rfl) ⟨_, rfl, rfl, yG⟩
theorem canon_r (N : Nat) (hN : N < 115792089237316195423570985008687907853269984665640564039457584007913129639936) (w : World) :
    Calls Try.prog 28 #[num N] w (Ret fun v w' => v = .bool (decide (N % p25519 = N)) ∧ Grow w w') := by
  refine V.calls (args := [_]) Try.func28 rfl Try.ntmps28 rfl rfl ?_
  repeat (first | (refine TL.isAsg ?_; first | refine TL.pure rfl rfl ?_) | refine TL.nil ?_ | refine thenQ_normal ?_ | refine T.seq ?_ | refine T.region ?_ | (refine TL.isBox ?_; first | (refine TL.box rfl rfl rfl ?_; intro bk w' hg hbk hsz hsz')))
  apply T.any 4 [is _, is _, is _, is _]; (· first | kernel_rfl); (· ((repeat' (first | exact allDo_end | refine allDo_cons ?_ ?_)); (iterate 4 (· ((first | refine does_mk0 rfl rfl rfl ?_); ( intro wq _ _ hgq; (repeat (refine need_cons rfl rfl ?_; intro vq hvq; try (obtain rfl := hvq))); (refine need_nil ?_)); (repeat (first | (refine TL.isLoad ?_; first | refine TL.loadW rfl yB (by exact rfl) rfl ?_) | refine TL.nil ?_ | (refine TL.isFn 27 ?_; refine TL.call rfl (rest_r _ (by assumption) _) rfl ?_; rintro _ _ ⟨rfl, hgc⟩) | (refine TL.eqArr (xs := numL _) (ys := numL _) (decide (N % p25519 = N)) rfl rfl rfl (by trivial) rfl (num_dec (mod_big _) hN) rfl ?_))); first | exact one_end rfl yG rfl))))); (rintro _ _ _ hgr _ _; (repeat (refine need_cons rfl rfl ?_; intro vq hvq; try (obtain rfl := hvq))); (refine need_nil ?_))
  repeat (first | (refine TL.isAsg ?_; first | refine TL.pure rfl rfl ?_) | refine TL.nil ?_ | refine thenQ_normal ?_ | refine T.ret ?_)
  exact ret1 rfl ⟨_, rfl, rfl, yG⟩
theorem same_r (N M : Nat) (hN : N < 115792089237316195423570985008687907853269984665640564039457584007913129639936) (hM : M < 115792089237316195423570985008687907853269984665640564039457584007913129639936) (w : World) :
    Calls Try.prog 39 #[num N, num M] w (Ret fun v w' => v = .bool (decide (N % p25519 = M % p25519)) ∧ Grow w w') := by
  refine V.calls (args := [_, _]) Try.func39 rfl Try.ntmps39 rfl rfl ?_
  repeat (first | (refine TL.isAsg ?_; first | refine TL.pure rfl rfl ?_) | refine TL.nil ?_ | refine thenQ_normal ?_ | refine T.seq ?_ | refine T.region ?_ | (refine TL.isBox ?_; first | (refine TL.box rfl rfl rfl ?_; intro bk w' hg hbk hsz hsz')))
  apply T.any 5 [is _, is _, is _, is _, is _]; (· first | kernel_rfl); (· ((repeat' (first | exact allDo_end | refine allDo_cons ?_ ?_)); (iterate 5 (· ((first | refine does_mk0 rfl rfl rfl ?_); ( intro wq _ _ hgq; (repeat (refine need_cons rfl rfl ?_; intro vq hvq; try (obtain rfl := hvq))); (refine need_nil ?_)); (repeat (first | (refine TL.isLoad ?_; first | refine TL.loadW rfl yB (by exact rfl) rfl ?_) | refine TL.nil ?_ | (refine TL.isFn 27 ?_; refine TL.call rfl (rest_r _ (by assumption) _) rfl ?_; rintro _ _ ⟨rfl, hgc⟩) | (refine TL.eqArr (xs := numL _) (ys := numL _) (decide (N % p25519 = M % p25519)) rfl rfl rfl (by trivial) rfl (num_dec (mod_big _) (mod_big _)) rfl ?_))); first | exact one_end rfl yG rfl))))); (rintro _ _ _ hgr _ _; (repeat (refine need_cons rfl rfl ?_; intro vq hvq; try (obtain rfl := hvq))); (refine need_nil ?_))
  repeat (first | (refine TL.isAsg ?_; first | refine TL.pure rfl rfl ?_) | refine TL.nil ?_ | refine thenQ_normal ?_ | refine T.ret ?_)
  exact ret1 rfl ⟨_, rfl, rfl, yG⟩
theorem odd_r (N : Nat) (hN : N < 115792089237316195423570985008687907853269984665640564039457584007913129639936) (w : World) :
    Calls Try.prog 38 #[num N] w (Ret fun v w' => v = .bool (decide (N % p25519 % 2 = 1)) ∧ Grow w w') := by
  refine V.calls (args := [_]) Try.func38 rfl Try.ntmps38 rfl rfl ?_
  repeat (first | (refine TL.isAsg ?_; first | refine TL.pure rfl rfl ?_) | (refine TL.isLoad ?_; first | refine TL.loadW rfl yB (by exact rfl) rfl ?_) | refine TL.nil ?_ | refine thenQ_normal ?_ | refine T.seq ?_ | refine T.region ?_ | (refine TL.isBox ?_; first | (refine TL.box rfl rfl rfl ?_; intro bk w' hg hbk hsz hsz')))
  refine TL.call rfl (rest_r _ hN _) rfl ?_
  rintro _ _ ⟨rfl, hgc⟩
  refine TL.indexV (cs := numL (N % p25519)) rfl rfl (by omega) rfl rfl rfl ?_
  have hb : q0 (N % p25519) % 256 % 2 = N % p25519 % 2 := by unfold q0; omega
  refine TL.remU rfl rfl (by omega) rfl ?_
  repeat (first | (refine TL.isAsg ?_; first | refine TL.pure rfl rfl ?_) | refine TL.nil ?_ | refine thenQ_normal ?_ | (refine TL.isBin ?_; first | refine TL.pure rfl rfl ?_) | refine T.ret ?_)
  have e : (((q0 (N % p25519) % 256 % 2 : Nat) : Int) == 1) = decide (N % p25519 % 2 = 1) := by
    rw [hb]
    rcases Nat.mod_two_eq_zero_or_one (N % p25519) with h | h <;> rw [h] <;> rfl
  exact ret1 rfl ⟨_, rfl, by rw [← e], yG⟩
def stW (xs : List Nat) (E : Nat) : Nat → List Nat
  | 0 => [1, 0, 0, 0, 0, 0, 0, 0, 0, 0]
  | k + 1 => if E / 2 ^ (255 - k) % 2 = 1 then timesW (timesW (stW xs E k) (stW xs E k)) xs else timesW (stW xs E k) (stW xs E k)
theorem rep_pow {xs : List Nat} {N E : Nat} (h : Rep xs N) (hE : E < 115792089237316195423570985008687907853269984665640564039457584007913129639936) : ∀ {k : Nat}, k ≤ 256 → Rep (stW xs E k) (N ^ (E / 2 ^ (256 - k)))
  | 0, _ => by
    have : E / 2 ^ (256 - 0) = 0 := Nat.div_eq_of_lt hE
    rw [this]
    unfold stW
    exact ⟨by unfold Good; decide, rfl⟩
  | k + 1, hk => by
    have ih := rep_pow h hE (show k ≤ 256 by omega)
    have h2 := rep_times ih ih
    have e : E / 2 ^ (255 - k) = 2 * (E / 2 ^ (256 - k)) + E / 2 ^ (255 - k) % 2 := by
      rw [show 256 - k = (255 - k) + 1 by omega, Nat.pow_succ, ← Nat.div_div_eq_div_mul]; omega
    rw [show 256 - (k + 1) = 255 - k by omega, e]
    unfold stW
    split
    · rename_i hb
      rw [hb, Nat.pow_succ, Nat.two_mul, Nat.pow_add]
      exact rep_times h2 h
    · rename_i hb
      rw [show E / 2 ^ (255 - k) % 2 = 0 by omega, Nat.add_zero, Nat.two_mul, Nat.pow_add]
      exact h2
theorem stW_succ (xs : List Nat) (E k : Nat) : stW xs E (k + 1) = if E / 2 ^ (255 - k) % 2 = 1 then timesW (timesW (stW xs E k) (stW xs E k)) xs else timesW (stW xs E k) (stW xs E k) := by rw [stW]
set_option maxHeartbeats 4000000 in
set_option maxRecDepth 10000 in
theorem power_w (xs : List Nat) (N E : Nat) (hx : Rep xs N) (hE : E < 115792089237316195423570985008687907853269984665640564039457584007913129639936) (w : World) :
    Calls Try.prog 79 #[tenV xs, num E] w (Ret fun v w' => v = tenV (stW xs E 256) ∧ Grow w w') := by
  refine V.calls (args := [_, _]) Try.func79 rfl Try.ntmps79 rfl rfl ?_
  have lx : (wL xs).length = 10 := by rw [wL_len]; exact hx.1.len
  have ls : ∀ k, k ≤ 256 → (wL (stW xs E k)).length = 10 := fun k hk => by rw [wL_len]; exact (rep_pow hx hE hk).1.len
  repeat (first | (refine TL.isAsg ?_; first | refine TL.pure rfl rfl ?_) | refine TL.nil ?_ | refine thenQ_normal ?_ | refine T.seq ?_ | refine T.region ?_ | refine T.block ?_ | (refine TL.isStore ?_; first | (refine TL.storeWh rfl rfl yB (by exact rfl) (by exact rfl) (by exact rfl) ?_; intro w' hu hbk hsz)) | (refine TL.isBox ?_; first | (refine TL.boxA rfl rfl ?_; intro bk w' hg hbk hsz hsz')) | (refine TL.isAlloc ?_; first | (refine TL.alloc rfl rfl ?_; intro bk w' hg hbk hsz hsz')) | (refine TL.isBuild ?_; first | refine TL.buildArr rfl rfl rfl ?_))
  rename_i b1 w1 gg1 k1 s1 t1 b2 w2 gg2 k2 s2 t2 b4 w4 gg4 k4 s4 t4 w5 k5 s5
  have m1 : Blk w' b1 75 (wL xs) := by exact yB
  have m2 : Blk w' b2 23 (numL E) := by exact yB
  have m4 : Blk w' b4 75 [I1 0, I1 0, I1 0, I1 0, I1 0, I1 0, I1 0, I1 0, I1 0, I1 0] := by exact yB
  have m5 : Blk w' bk 75 (wL (stW xs E 0)) := by unfold stW wL; exact hbk
  have := gg1.2
  have := gg2.2
  have := gg4.2
  have := hg.2
  have hw4 : w.heap.size ≤ b4 := by omega
  have hw5 : w.heap.size ≤ bk := by omega
  have ne1 : b1 ≠ bk := by omega
  have ne2 : b2 ≠ bk := by omega
  have ne4 : b4 ≠ bk := by omega
  have hG : Grow w w' := by exact yG
  refine T.loop (S := Nat) (fun r => [(6, .int .i64 ((r : Int) - 1)), (2, .pointer (some ⟨b1, 0, none⟩)), (3, .pointer (some ⟨b2, 0, none⟩)), (4, .pointer (some ⟨b4, 0, none⟩)), (5, .pointer (some ⟨bk, 0, none⟩))])
    (fun r v => r ≤ 256 ∧ Blk v b1 75 (wL xs) ∧ Blk v b2 23 (numL E) ∧ Blk v b4 75 [I1 0, I1 0, I1 0, I1 0, I1 0, I1 0, I1 0, I1 0, I1 0, I1 0] ∧ Blk v bk 75 (wL (stW xs E (256 - r))) ∧ Grow w v) (fun r => r) 256 ⟨rfl, rfl, rfl, rfl, rfl, trivial⟩
    ⟨by omega, m1, m2, m4, by rw [Nat.sub_self]; exact m5, hG⟩ ?_
  clear m1 m2 m4 m5 hG k1 k2 k4 k5 hbk gg1 gg2 gg4 hg s1 t1 s2 t2 s4 t4 s5 hsz hsz' hu
  rintro r v ⟨hr, m1, m2, m4, m5, hG⟩
  have n1 := m1.lt
  have n2 := m2.lt
  have n4 := m4.lt
  have n5 := m5.lt
  rcases Nat.eq_zero_or_pos r with h0 | h0
  · subst h0
    refine T.weaken (e' := [(6, .int .i64 (-1)), (2, _), (3, _), (4, _), (5, _)]) ?_ ⟨rfl, rfl, rfl, rfl, rfl, trivial⟩
    have l5 := ls 256 (by omega)
    repeat (first | (refine TL.isMove ?_; first | refine TL.pure rfl rfl ?_) | refine TL.nil ?_ | refine thenQ_normal ?_ | refine T.seq ?_ | refine T.region ?_ | (refine TL.isBin ?_; first | refine TL.pureF rfl yD rfl ?_) | refine T.cond_false rfl ?_ | refine T.ret ?_ | refine T.exit ?_ | refine thenQ_exit ?_ | refine blockQ_hit ?_ | refine loopQ_exit ?_ | (refine TL.isLoad ?_; refine TL.loadW rfl yB (by rw [l5]; rfl) rfl ?_) | (refine TL.isStore ?_; refine TL.storeWh rfl rfl yB (by rw [l5]; rfl) (by exact rfl) (wL_one _) ?_; intro w' hu hbk hsz))
    exact retC rfl (load_whole (by assumption) (by rw [l5]; rfl)) ⟨_, rfl, rfl, yG⟩
  · obtain ⟨i, rfl⟩ : ∃ i, r = i + 1 := ⟨r - 1, by omega⟩
    have hi : i < 256 := by omega
    refine T.weaken (e' := [(6, .int .i64 (i : Int)), (2, _), (3, _), (4, _), (5, _)]) ?_ ⟨congrArg some (congrArg (Value.int .i64) (by omega)), rfl, rfl, rfl, rfl, trivial⟩
    have l5 := ls (256 - (i + 1)) (by omega)
    have hbb := byte_bit E i
    have hst := stW_succ xs E (256 - (i + 1))
    rw [show 256 - (i + 1) + 1 = 256 - i by omega, show 255 - (256 - (i + 1)) = i by omega] at hst
    have hg1 := (rep_pow hx hE (show 256 - (i + 1) ≤ 256 by omega)).1
    have hgt := times_good hg1 hg1
    have l6 : (wL (timesW (stW xs E (256 - (i + 1))) (stW xs E (256 - (i + 1))))).length = 10 := by rw [wL_len]; exact hgt.len
    have l7 : (wL (timesW (timesW (stW xs E (256 - (i + 1))) (stW xs E (256 - (i + 1)))) xs)).length = 10 := by rw [wL_len]; exact (times_good hgt hx.1).len
    generalize stW xs E (256 - (i + 1)) = s at *
    rcases Nat.mod_two_eq_zero_or_one (E / 2 ^ i) with hb | hb
    · rw [hb] at hbb
      rw [if_neg (by omega)] at hst
      repeat (first | (refine TL.isMove ?_; first | refine TL.pure rfl rfl ?_) | (refine TL.isAsg ?_; first | refine TL.pure rfl rfl ?_) | (refine TL.isIndex ?_; first | refine TL.indexA1 rfl rfl (by first | omega) rfl ?_) | (refine TL.isSub ?_; first | refine TL.subI rfl rfl (by omega) (by omega) rfl ?_) | refine TL.nil ?_ | refine thenQ_normal ?_ | refine T.seq ?_ | refine T.region ?_ | refine T.block ?_ | refine blockQ_normal ?_ | (refine TL.isShr ?_; first | refine TL.shrS rfl rfl (by first | (simp only [IntKind.bits]; omega)) rfl ?_) | (refine TL.isRem ?_; first | refine TL.remU rfl rfl (by omega) rfl ?_) | (refine TL.isQuo ?_; first | refine TL.quoN rfl rfl (by omega) (by first | omega) rfl ?_) | (refine TL.isBin ?_; first | refine TL.pureT rfl yD rfl ?_ | refine TL.pureF rfl yD rfl ?_) | (refine TL.isConv ?_; first | refine TL.convU rfl rfl (by omega) rfl ?_) | refine T.cond_true rfl ?_ | refine T.cond_false rfl ?_ | refine T.skip ?_ | (refine TL.isLoad ?_; refine TL.loadW rfl yB (by rw [l5]; rfl) rfl ?_) | (refine TL.isLoad ?_; refine TL.load1 rfl (Blk.cell yB (numL_at (by omega))) rfl ?_) | (refine TL.isFn 78 ?_; refine TL.call rfl (times_w _ _ hg1 hg1 _) rfl ?_; rintro _ _ ⟨rfl, hgc⟩) | (refine TL.isStore ?_; refine TL.storeWh rfl rfl yB (by rw [l6]; rfl) (by rw [l5]; rfl) (wL_one _) ?_; intro w' hu hbk hsz))
      rw [← hst] at hbk
      exact loopQ_normal i ⟨rfl, rfl, rfl, rfl, rfl, trivial⟩ ⟨by omega, yB, yB, yB, hbk, yG⟩ (by omega)
    · rw [hb] at hbb
      rw [if_pos hb] at hst
      repeat (first | (refine TL.isMove ?_; first | refine TL.pure rfl rfl ?_) | refine TL.nil ?_ | refine thenQ_normal ?_ | refine T.seq ?_ | refine T.region ?_ | refine T.block ?_ | (refine TL.isBin ?_; first | refine TL.pureT rfl yD rfl ?_) | refine T.cond_true rfl ?_ | refine T.skip ?_ | (refine TL.isLoad ?_; first | refine TL.loadW rfl yB (by first | (rw [l5]; rfl)) rfl ?_))
      refine TL.call rfl (times_w _ _ hg1 hg1 _) rfl ?_
      rintro _ v1 ⟨rfl, hc1⟩
      repeat (first | (refine TL.isMove ?_; first | refine TL.pure rfl rfl ?_) | (refine TL.isIndex ?_; first | refine TL.indexA1 rfl rfl (by first | omega) rfl ?_) | refine TL.nil ?_ | refine thenQ_normal ?_ | refine T.seq ?_ | refine T.region ?_ | (refine TL.isShr ?_; first | refine TL.shrS rfl rfl (by first | (simp only [IntKind.bits]; omega)) rfl ?_) | (refine TL.isRem ?_; first | refine TL.remU rfl rfl (by omega) rfl ?_) | (refine TL.isQuo ?_; first | refine TL.quoN rfl rfl (by omega) (by first | omega) rfl ?_) | (refine TL.isBin ?_; first | refine TL.pureT rfl yD rfl ?_) | (refine TL.isConv ?_; first | refine TL.convU rfl rfl (by omega) rfl ?_) | refine T.cond_true rfl ?_ | (refine TL.isStore ?_; refine TL.storeWh rfl rfl yB (by rw [l6]; rfl) (by rw [l5]; rfl) (wL_one _) ?_; intro w' hu hbk hsz) | (refine TL.isLoad ?_; first | refine TL.loadW rfl yB (by first | (rw [lx]; rfl) | (rw [l6]; rfl)) rfl ?_ | refine TL.load1 rfl (Blk.cell yB (numL_at (by omega))) rfl ?_))
      refine TL.call rfl (times_w _ _ hgt hx.1 _) rfl ?_
      rintro _ v2 ⟨rfl, hc2⟩
      repeat (first | (refine TL.isMove ?_; first | refine TL.pure rfl rfl ?_) | (refine TL.isAsg ?_; first | refine TL.pure rfl rfl ?_) | (refine TL.isSub ?_; first | refine TL.subI rfl rfl (by omega) (by omega) rfl ?_) | refine TL.nil ?_ | refine thenQ_normal ?_ | refine T.region ?_ | refine blockQ_normal ?_ | (refine TL.isStore ?_; refine TL.storeWh rfl rfl yB (by rw [l7]; rfl) (by rw [l6]; rfl) (wL_one _) ?_; intro w' hu hbk hsz))
      rw [← hst] at hbk
      exact loopQ_normal i ⟨rfl, rfl, rfl, rfl, rfl, trivial⟩ ⟨by omega, yB, yB, yB, hbk, yG⟩ (by omega)
theorem pow_r (N E : Nat) (hN : N < 115792089237316195423570985008687907853269984665640564039457584007913129639936) (hE : E < 115792089237316195423570985008687907853269984665640564039457584007913129639936) (w : World) :
    Calls Try.prog 36 #[num N, num E] w (Ret fun v w' => v = num (pw N E) ∧ Grow w w') := by
  refine V.calls (args := [_, _]) Try.func36 rfl Try.ntmps36 rfl rfl ?_
  have rN := rep_opn hN
  have rP := rep_pow rN hE (Nat.le_refl 256)
  rw [Nat.sub_self, Nat.pow_zero, Nat.div_one] at rP
  have hc := close_r rP
  rw [← pw_def] at hc
  repeat (first | refine TL.nil ?_ | refine thenQ_normal ?_ | refine T.seq ?_ | refine T.region ?_ | (refine TL.isBox ?_; first | (refine TL.boxA rfl rfl ?_; intro bk w' hg hbk hsz hsz')) | (refine TL.isAlloc ?_; first | (refine TL.alloc rfl rfl ?_; intro bk w' hg hbk hsz hsz')))
  apply T.any 5 [is _, is _, is _, is _, is _]; (· first | kernel_rfl); (· ((repeat' (first | exact allDo_end | refine allDo_cons ?_ ?_)); (iterate 5 (· ((first | refine does_mk0 rfl rfl rfl ?_); ( intro wq _ _ hgq; (repeat (refine need_cons rfl rfl ?_; intro vq hvq; try (obtain rfl := hvq))); (refine need_nil ?_)); (repeat (first | (refine TL.isLoad ?_; first | refine TL.loadW rfl yB (by exact rfl) rfl ?_) | refine TL.nil ?_ | (refine TL.isFn 75 ?_; refine TL.call rfl (opn_w _ _) rfl ?_; rintro _ _ ⟨rfl, hgc⟩) | (refine TL.isFn 79 ?_; refine TL.call rfl (power_w _ N E rN hE _) rfl ?_; rintro _ _ ⟨rfl, hgc⟩) | (refine TL.isFn 74 ?_; refine TL.call rfl (hc _) rfl ?_; rintro _ _ ⟨rfl, hgc⟩))); first | exact one_end rfl yG rfl))))); (rintro _ _ _ hgr _ _; (repeat (refine need_cons rfl rfl ?_; intro vq hvq; try (obtain rfl := hvq))); (refine need_nil ?_))
  repeat (first | refine TL.nil ?_ | refine thenQ_normal ?_ | (refine TL.isStore ?_; first | (refine TL.storeWh rfl rfl yB (by exact rfl) (by exact rfl) (by exact rfl) ?_; intro w' hu hbk hsz)) | refine T.ret ?_)
  exact retC rfl (load_whole (by assumption) rfl) ⟨_, rfl, rfl, yG⟩
end Go.Proofs.Ytmpjigghgedjbaa
namespace Go.Proofs.Ytmpjigghgedjbaa
open Go Go.RowKit Go.V Go.N
theorem mod256 (a : Nat) : a % 115792089237316195423570985008687907853269984665640564039457584007913129639936 < 115792089237316195423570985008687907853269984665640564039457584007913129639936 := Nat.mod_lt _ (by decide)
set_option maxHeartbeats 8000000 in
set_option maxRecDepth 100000 in
theorem back_c (P : Pt) (N : Nat) (hP : Small256 P) (hN : N < 115792089237316195423570985008687907853269984665640564039457584007913129639936) (w : World) :
    Calls Try.prog 9 #[pt P, num N] w (Ret fun v w' => v = .bool true ∧ Grow w w') := by
  refine V.calls (args := [_, _]) Try.func9 rfl Try.ntmps9 rfl rfl ?_
  refine T.cutAt 4 (fun e v => ∃ b2, Sub [(2, .pointer (some ⟨b2, 0, none⟩))] e ∧ Blk v b2 39 (ptL P.1 P.2) ∧ Grow w v) ?_ ?_
  rotate_left
  · have qr := read_c N hN
    cases hX : rd N with
    | none =>
      rw [hX] at qr
      repeat (first | (refine TL.isMove ?_; first | refine TL.pure rfl rfl ?_) | (refine TL.isAsg ?_; first | refine TL.pure rfl rfl ?_) | (refine TL.isLoad ?_; first | refine TL.loadW rfl yB (by exact rfl) rfl ?_) | refine TL.nil ?_ | refine thenQ_normal ?_ | refine T.seq ?_ | refine T.region ?_ | (refine TL.isBin ?_; first | refine TL.pureF rfl yD rfl ?_) | (refine TL.isStore ?_; first | (refine TL.storeWh rfl rfl yB (by exact rfl) (by exact rfl) (by exact rfl) ?_; intro w' hu hbk hsz)) | (refine TL.isBox ?_; first | (refine TL.boxA rfl rfl ?_; intro bk w' hg hbk hsz hsz')) | (refine TL.isAlloc ?_; first | (refine alloc_pt rfl ?_; intro bk w' hg hbk hsz hsz')) | refine T.cond_false rfl ?_ | refine T.skip ?_ | refine TL.pure rfl rfl ?_ | refine uptoQ_normal ?_ | refine upto_seq ?_ | refine upto_end ?_ | (refine TL.isFn 40 ?_; refine TL.call rfl (lives5_c _) rfl ?_; rintro _ _ ⟨rfl, hgc⟩) | (refine TL.isFn 41 ?_; refine TL.call rfl (qr _) rfl ?_; rintro _ _ ⟨rfl, hgc⟩))
      exact ⟨_, ⟨rfl, trivial⟩, yB, yG⟩
    | some X =>
      rw [hX] at qr
      obtain ⟨hXv, hXe⟩ := rd_some hN hX
      have qb := bytes_y X hXv
      rw [hXe] at qb
      have qc := canon_r X.2 (Nat.lt_trans hXv.2.1 (by decide))
      rw [decide_eq_true (Nat.mod_eq_of_lt hXv.2.1)] at qc
      repeat (first | (refine TL.isGuard ?_; first | refine TL.guard_run rfl rfl rfl ?_) | (refine TL.isMove ?_; first | refine TL.pure rfl rfl ?_) | (refine TL.isAsg ?_; first | refine TL.pure rfl rfl ?_) | (refine TL.isLoad ?_; first | refine TL.loadW rfl yB (by exact rfl) rfl ?_ | refine TL.loadC rfl yB rfl ?_) | (refine TL.isField ?_; first | refine TL.fieldA0 rfl rfl ?_) | refine TL.nil ?_ | refine thenQ_normal ?_ | refine T.seq ?_ | refine T.region ?_ | (refine TL.isBin ?_; first | refine TL.pureT rfl yD rfl ?_ | refine TL.pureF rfl yD rfl ?_) | (refine TL.isStore ?_; first | (refine TL.storeWh rfl rfl yB (by exact rfl) (by exact rfl) (by exact rfl) ?_; intro w' hu hbk hsz)) | (refine TL.isBox ?_; first | (refine TL.boxA rfl rfl ?_; intro bk w' hg hbk hsz hsz')) | (refine TL.isAlloc ?_; first | (refine alloc_pt rfl ?_; intro bk w' hg hbk hsz hsz') | (refine TL.alloc rfl rfl ?_; intro bk w' hg hbk hsz hsz')) | refine T.cond_true rfl ?_ | refine T.cond_false rfl ?_ | refine T.skip ?_ | refine TL.pure rfl rfl ?_ | refine uptoQ_normal ?_ | refine upto_seq ?_ | refine upto_end ?_ | (refine TL.isFn 40 ?_; refine TL.call rfl (lives5_c _) rfl ?_; rintro _ _ ⟨rfl, hgc⟩) | (refine TL.isFn 41 ?_; refine TL.call rfl (qr _) rfl ?_; rintro _ _ ⟨rfl, hgc⟩) | (refine TL.isFn 42 ?_; refine TL.call rfl (qb _) rfl ?_; rintro _ _ ⟨rfl, hgc⟩) | (refine TL.isFn 43 ?_; refine TL.call rfl (check_y' X hXv _) rfl ?_; rintro _ _ ⟨rfl, hgc⟩) | (refine TL.isFn 28 ?_; refine TL.call rfl (qc _) rfl ?_; rintro _ _ ⟨rfl, hgc⟩) | (refine TL.isNeT 22 ?_; refine TL.neArr (xs := numL N) (ys := numL N) true rfl rfl rfl (by trivial) rfl ⟨fun _ => rfl, fun _ => rfl⟩ rfl ?_))
      exact ⟨_, ⟨rfl, trivial⟩, yB, yG⟩
  rintro e w1 ⟨b2, hsub, m2, hG⟩
  refine T.weaken (e' := [(2, _)]) ?_ hsub
  clear hsub
  have l2 := m2.lt
  by_cases hv : Val P
  · have qb := bytes_y P hv
    have q1 := read_c (enc P) (enc_lt hv)
    rw [rd_enc hv] at q1
    have hbl := byteN_lt (enc P) 31
    have hbt := bit_turn (enc_lt hv)
    have q2 := read_c ((enc P + B255) % 115792089237316195423570985008687907853269984665640564039457584007913129639936) (mod256 _)
    rw [rd_flip hv] at q2
    have hnv : Small256 (negP P) := ⟨Nat.lt_trans (neg_val hv).1 (by decide), Nat.lt_trans (neg_val hv).2.1 (by decide)⟩
    have hp0 : (decide (P.1 = 0) = true) ↔ numL P.1 = numL 0 := ⟨fun h => congrArg numL (of_decide_eq_true h), fun h => decide_eq_true (num_inj hP.1 (by decide) h)⟩
    generalize enc P = EP at *
    generalize (EP + B255) % 115792089237316195423570985008687907853269984665640564039457584007913129639936 = EF at *
    repeat (first | (refine TL.isMove ?_; first | refine TL.pure rfl rfl ?_) | (refine TL.isAsg ?_; first | refine TL.pure rfl rfl ?_) | (refine TL.isLoad ?_; first | refine TL.loadW rfl yB (by exact rfl) rfl ?_) | refine TL.nil ?_ | refine thenQ_normal ?_ | refine T.seq ?_ | refine T.region ?_ | (refine TL.isBin ?_; first | refine TL.pureF rfl yD rfl ?_) | (refine TL.isStore ?_; first | (refine TL.storeWh rfl rfl yB (by exact rfl) (by exact rfl) (by exact rfl) ?_; intro w' hu hbk hsz)) | (refine TL.isAlloc ?_; first | (refine TL.alloc rfl rfl ?_; intro bk w' hg hbk hsz hsz')) | refine T.cond_false rfl ?_ | refine T.skip ?_ | refine TL.pure rfl rfl ?_ | (refine TL.isFn 42 ?_; refine TL.call rfl (qb _) rfl ?_; rintro _ _ ⟨rfl, hgc⟩))
    refine TL.call rfl (q1 _) rfl ?_
    rintro _ w3 ⟨rfl, hg3⟩
    repeat (first | (refine TL.isLoad ?_; refine TL.load1 rfl (Blk.cell yB (numL_at (N := EP) (i := 31) (by decide))) rfl ?_) | (refine TL.isXor ?_; refine TL.xor128 rfl rfl hbl rfl ?_) | (refine TL.isMove ?_; first | refine TL.pure rfl rfl ?_) | (refine TL.isAsg ?_; first | refine TL.pure rfl rfl ?_) | (refine TL.isLoad ?_; first | refine TL.loadW rfl yB (by exact rfl) rfl ?_) | (refine TL.isIndex ?_; first | refine TL.indexA1 rfl rfl (by first | omega) rfl ?_) | refine TL.nil ?_ | refine thenQ_normal ?_ | refine T.seq ?_ | refine T.region ?_ | (refine TL.isStore ?_; first | (refine TL.store1 rfl rfl yB (by exact rfl) (by exact rfl) (by exact rfl) ?_; intro w' hu hbk hsz) | (refine TL.storeWh rfl rfl yB (by exact rfl) (by exact rfl) (by exact rfl) ?_; intro w' hu hbk hsz)) | (refine TL.isAlloc ?_; first | (refine alloc_pt rfl ?_; intro bk w' hg hbk hsz hsz')) | refine TL.pure rfl rfl ?_)
    rw [show (numL EP).set 31 (Value.int .u8 (((byteN EP 31 + 128) % 256 : Nat) : Int)) = numL EF from hbt] at hbk ⊢
    by_cases h0 : P.1 = 0
    · rw [if_pos h0] at q2
      rw [decide_eq_true h0] at hp0
      refine TL.call rfl (q2 _) rfl ?_
      rintro _ w4 ⟨rfl, hg4⟩
      repeat (first | (refine TL.isGuard ?_; first | refine TL.guard_run rfl rfl rfl ?_) | (refine TL.isMove ?_; first | refine TL.pure rfl rfl ?_) | (refine TL.isAsg ?_; first | refine TL.pure rfl rfl ?_) | (refine TL.isLoad ?_; first | refine TL.loadW rfl yB (by exact rfl) rfl ?_ | refine TL.loadC rfl yB rfl ?_) | (refine TL.isField ?_; first | refine TL.fieldA0 rfl rfl ?_) | refine TL.nil ?_ | refine thenQ_normal ?_ | refine T.seq ?_ | refine T.region ?_ | (refine TL.isBin ?_; first | refine TL.pureT rfl yD rfl ?_ | refine TL.pureF rfl yD rfl ?_) | (refine TL.isStore ?_; first | (refine TL.storeWh rfl rfl yB (by exact rfl) (by exact rfl) (by exact rfl) ?_; intro w' hu hbk hsz)) | (refine TL.isAlloc ?_; first | (refine alloc_pt rfl ?_; intro bk w' hg hbk hsz hsz')) | (refine TL.isBuild ?_; first | refine TL.buildArr rfl rfl rfl ?_) | refine T.cond_true rfl ?_ | refine T.cond_false rfl ?_ | refine T.ret ?_ | refine T.skip ?_ | refine thenQ_ret ?_ | refine TL.pure rfl rfl ?_ | (refine TL.isNeT 39 ?_; refine ne_pt P P true hP hP (decide_eq_true rfl) rfl rfl rfl ?_) | (refine TL.isEqT 23 ?_; refine TL.eqArr (xs := numL P.1) (ys := numL 0) true rfl rfl rfl (by trivial) rfl hp0 rfl ?_))
      exact ret1 rfl ⟨_, rfl, rfl, yG⟩
    · rw [if_neg h0] at q2
      rw [decide_eq_false h0] at hp0
      refine TL.call rfl (q2 _) rfl ?_
      rintro _ w4 ⟨rfl, hg4⟩
      repeat (first | (refine TL.isGuard ?_; first | refine TL.guard_run rfl rfl rfl ?_) | (refine TL.isMove ?_; first | refine TL.pure rfl rfl ?_) | (refine TL.isAsg ?_; first | refine TL.pure rfl rfl ?_) | (refine TL.isLoad ?_; first | refine TL.loadW rfl yB (by exact rfl) rfl ?_ | refine TL.loadC rfl yB rfl ?_) | (refine TL.isField ?_; first | refine TL.fieldA0 rfl rfl ?_) | refine TL.nil ?_ | refine thenQ_normal ?_ | refine T.seq ?_ | refine T.region ?_ | (refine TL.isBin ?_; first | refine TL.pureF rfl yD rfl ?_) | (refine TL.isStore ?_; first | (refine TL.storeWh rfl rfl yB (by exact rfl) (by exact rfl) (by exact rfl) ?_; intro w' hu hbk hsz)) | (refine TL.isAlloc ?_; first | (refine alloc_pt rfl ?_; intro bk w' hg hbk hsz hsz')) | (refine TL.isBuild ?_; first | refine TL.buildArr rfl rfl rfl ?_) | refine T.cond_false rfl ?_ | refine T.skip ?_ | refine TL.pure rfl rfl ?_ | (refine TL.isNeT 39 ?_; refine ne_pt P P true hP hP (decide_eq_true rfl) rfl rfl rfl ?_) | (refine TL.isEqT 23 ?_; refine TL.eqArr (xs := numL P.1) (ys := numL 0) false rfl rfl rfl (by trivial) rfl hp0 rfl ?_))
      have k2 : Blk w' b2 39 (ptL P.1 P.2) := by exact yB
      have k12 : Blk w' bk 39 (ptL (negP P).1 (negP P).2) := hbk
      have kG : Grow w w' := by exact yG
      have hl2 := k2.lt
      have hl12 := k12.lt
      clear m2 hG
      apply T.any 8 [is _, is _, is _, is _, is _, is _, is _, is _]; (· first | kernel_rfl); (· ((repeat' (first | exact allDo_end | refine allDo_cons ?_ ?_)); (iterate 8 (· ((first | refine does_mk0 rfl rfl rfl ?_ | refine does_mk rfl rfl rfl rfl ?_); ( intro wq _ _ hgq; (repeat (refine need_cons rfl rfl ?_; intro vq hvq; try (obtain rfl := hvq))); (refine need_nil ?_)); (repeat (first | (refine TL.isGuard ?_; first | refine TL.guard_run rfl rfl rfl ?_) | (refine TL.isMove ?_; first | refine TL.pure rfl rfl ?_) | (refine TL.isLoad ?_; first | refine TL.loadW rfl yB (by exact rfl) rfl ?_) | refine TL.nil ?_ | (refine TL.isBin ?_; first | refine TL.pureT rfl yD rfl ?_) | refine TL.pure rfl rfl ?_ | (refine TL.isFn 44 ?_; refine TL.call rfl (neg_y' P hv _) rfl ?_; rintro _ _ ⟨rfl, hgc⟩) | (refine TL.isEqT 39 ?_; refine eq_pt (negP P) (negP P) true hnv hnv (decide_eq_true rfl) rfl rfl rfl ?_))); first | exact one_end rfl yG rfl))))); (rintro _ _ _ hgr _ _; (repeat (refine need_cons rfl rfl ?_; intro vq hvq; try (obtain rfl := hvq))); (refine need_nil ?_))
      repeat (first | (refine TL.isAsg ?_; first | refine TL.pure rfl rfl ?_) | refine TL.nil ?_ | refine thenQ_normal ?_ | refine T.ret ?_)
      exact ret1 rfl ⟨_, rfl, rfl, yG⟩
  · have qb := bytes_n P hP.1 hP.2 hv
    have qc := check_n' P hP.1 hP.2 hv
    repeat (first | (refine TL.isGuard ?_; first | refine TL.guard_run rfl rfl rfl ?_) | (refine TL.isMove ?_; first | refine TL.pure rfl rfl ?_) | (refine TL.isAsg ?_; first | refine TL.pure rfl rfl ?_) | (refine TL.isLoad ?_; first | refine TL.loadW rfl yB (by exact rfl) rfl ?_) | refine TL.nil ?_ | refine thenQ_normal ?_ | refine T.seq ?_ | refine T.region ?_ | (refine TL.isBin ?_; first | refine TL.pureT rfl yD rfl ?_) | (refine TL.isStore ?_; first | (refine TL.storeWh rfl rfl yB (by exact rfl) (by exact rfl) (by exact rfl) ?_; intro w' hu hbk hsz)) | (refine TL.isAlloc ?_; first | (refine TL.alloc rfl rfl ?_; intro bk w' hg hbk hsz hsz')) | (refine TL.isBuild ?_; first | refine TL.buildArr rfl rfl rfl ?_) | refine T.cond_true rfl ?_ | refine T.ret ?_ | refine thenQ_ret ?_ | refine TL.pure rfl rfl ?_ | (refine TL.isFn 42 ?_; refine TL.call rfl (qb _) rfl ?_; rintro _ _ ⟨rfl, hgc⟩) | (refine TL.isFn 43 ?_; refine TL.call rfl (qc _) rfl ?_; rintro _ _ ⟨rfl, hgc⟩) | (refine TL.isEqT 22 ?_; refine TL.eqArr (xs := numL 0) (ys := numL 0) true rfl rfl rfl (by trivial) rfl ⟨fun _ => rfl, fun _ => rfl⟩ rfl ?_))
    exact ret1 rfl ⟨_, rfl, rfl, yG⟩
end Go.Proofs.Ytmpjigghgedjbaa
