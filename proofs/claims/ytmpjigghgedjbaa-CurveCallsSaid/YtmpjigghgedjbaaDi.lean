import Derived.Test.YtmpjigghgedjbaaDg
import Derived.Test.YtmpjigghgedjbaaDh
set_option linter.unusedSimpArgs false
set_option linter.unusedVariables false
set_option linter.unusedSectionVars false
set_option maxHeartbeats 16000000
set_option maxRecDepth 100000
namespace Go.Proofs.Ytmpjigghgedjbaa
open Go Go.RowKit Go.V Go.N
instance : V.Zero Try.prog 80 (.agg #[.int .u8 0, .int .u8 0, .int .u8 0, .int .u8 0, .int .u8 0, .int .u8 0, .int .u8 0, .int .u8 0, .int .u8 0, .int .u8 0, .int .u8 0, .int .u8 0, .int .u8 0, .int .u8 0, .int .u8 0, .int .u8 0, .int .u8 0, .int .u8 0, .int .u8 0, .int .u8 0, .int .u8 0, .int .u8 0, .int .u8 0, .int .u8 0, .int .u8 0, .int .u8 0, .int .u8 0, .int .u8 0, .int .u8 0, .int .u8 0, .int .u8 0, .int .u8 0, .int .u8 0, .int .u8 0, .int .u8 0, .int .u8 0, .int .u8 0, .int .u8 0, .int .u8 0, .int .u8 0, .int .u8 0, .int .u8 0, .int .u8 0, .int .u8 0, .int .u8 0, .int .u8 0, .int .u8 0, .int .u8 0, .int .u8 0, .int .u8 0, .int .u8 0, .int .u8 0, .int .u8 0, .int .u8 0, .int .u8 0, .int .u8 0, .int .u8 0, .int .u8 0, .int .u8 0, .int .u8 0, .int .u8 0, .int .u8 0, .int .u8 0, .int .u8 0, .int .u8 0, .int .u8 0, .int .u8 0, .int .u8 0, .int .u8 0, .int .u8 0, .int .u8 0, .int .u8 0, .int .u8 0, .int .u8 0, .int .u8 0, .int .u8 0, .int .u8 0, .int .u8 0, .int .u8 0, .int .u8 0, .int .u8 0, .int .u8 0, .int .u8 0, .int .u8 0, .int .u8 0, .int .u8 0, .int .u8 0, .int .u8 0, .int .u8 0, .int .u8 0, .int .u8 0, .int .u8 0, .int .u8 0, .int .u8 0, .int .u8 0, .int .u8 0, .int .u8 0, .int .u8 0, .int .u8 0, .int .u8 0, .int .u8 0, .int .u8 0, .int .u8 0, .int .u8 0, .int .u8 0, .int .u8 0, .int .u8 0, .int .u8 0, .int .u8 0, .int .u8 0, .int .u8 0, .int .u8 0, .int .u8 0, .int .u8 0, .int .u8 0, .int .u8 0, .int .u8 0, .int .u8 0, .int .u8 0, .int .u8 0, .int .u8 0, .int .u8 0, .int .u8 0, .int .u8 0, .int .u8 0, .int .u8 0, .int .u8 0, .int .u8 0]) := ⟨by kernel_rfl⟩
def wdL (x y z t : Nat) : List Value := numL x ++ (numL y ++ (numL z ++ numL t))
abbrev wd (x y z t : Nat) : Value := .agg (wdL x y z t).toArray
instance (x y : Nat) : Cut (ptL x y) 0 32 (numL x) := ⟨rfl, rfl⟩
instance (x y : Nat) : Cut (ptL x y) 32 32 (numL y) := ⟨rfl, rfl⟩
instance (x y z t : Nat) : Cut (wdL x y z t) 0 32 (numL x) := ⟨rfl, rfl⟩
instance (x y z t : Nat) : Cut (wdL x y z t) 32 32 (numL y) := ⟨rfl, rfl⟩
instance (x y z t : Nat) : Cut (wdL x y z t) 64 32 (numL z) := ⟨rfl, rfl⟩
instance (x y z t : Nat) : Cut (wdL x y z t) 96 32 (numL t) := ⟨rfl, rfl⟩
theorem putAt_mid (pre old post vs : List Value) (h : vs.length = old.length) : putAt (pre ++ (old ++ post)) pre.length vs = pre ++ (vs ++ post) := by
 induction vs generalizing pre old with
 | nil =>
  have : old = [] := List.eq_nil_of_length_eq_zero (by simpa using h.symm)
  subst this; rfl
 | cons v vs ih =>
  cases old with
  | nil => simp at h
  | cons c cs =>
   simp only [putAt]
   rw [List.set_append_right _ _ (Nat.le_refl _), Nat.sub_self, List.cons_append, List.set_cons_zero]
   have := ih (pre ++ [v]) cs (by simpa using h)
   simpa using this
instance (x y z t v : Nat) : Put (wdL x y z t) 0 (numL v) (wdL v y z t) := ⟨putAt_mid [] (numL x) _ (numL v) rfl, by show 0 + 32 ≤ 128; decide, rfl⟩
instance (x y z t v : Nat) : Put (wdL x y z t) 32 (numL v) (wdL x v z t) := ⟨putAt_mid (numL x) (numL y) _ (numL v) rfl, by show 32 + 32 ≤ 128; decide, rfl⟩
instance (x y z t v : Nat) : Put (wdL x y z t) 64 (numL v) (wdL x y v t) := ⟨by
 have := putAt_mid (numL x ++ numL y) (numL z) (numL t) (numL v) rfl
 simpa [wdL, numL_l32] using this, by show 64 + 32 ≤ 128; decide, rfl⟩
instance (x y z t v : Nat) : Put (wdL x y z t) 96 (numL v) (wdL x y z v) := ⟨by
 have := putAt_mid (numL x ++ (numL y ++ numL z)) (numL t) [] (numL v) rfl
 simpa [wdL, numL_l32] using this, by show 96 + 32 ≤ 128; decide, rfl⟩
theorem wd_fill (x y z t : Nat) : fillV [(0, 32), (32, 32), (64, 32), (96, 32)] (Value.agg #[.int .u8 0, .int .u8 0, .int .u8 0, .int .u8 0, .int .u8 0, .int .u8 0, .int .u8 0, .int .u8 0, .int .u8 0, .int .u8 0, .int .u8 0, .int .u8 0, .int .u8 0, .int .u8 0, .int .u8 0, .int .u8 0, .int .u8 0, .int .u8 0, .int .u8 0, .int .u8 0, .int .u8 0, .int .u8 0, .int .u8 0, .int .u8 0, .int .u8 0, .int .u8 0, .int .u8 0, .int .u8 0, .int .u8 0, .int .u8 0, .int .u8 0, .int .u8 0, .int .u8 0, .int .u8 0, .int .u8 0, .int .u8 0, .int .u8 0, .int .u8 0, .int .u8 0, .int .u8 0, .int .u8 0, .int .u8 0, .int .u8 0, .int .u8 0, .int .u8 0, .int .u8 0, .int .u8 0, .int .u8 0, .int .u8 0, .int .u8 0, .int .u8 0, .int .u8 0, .int .u8 0, .int .u8 0, .int .u8 0, .int .u8 0, .int .u8 0, .int .u8 0, .int .u8 0, .int .u8 0, .int .u8 0, .int .u8 0, .int .u8 0, .int .u8 0, .int .u8 0, .int .u8 0, .int .u8 0, .int .u8 0, .int .u8 0, .int .u8 0, .int .u8 0, .int .u8 0, .int .u8 0, .int .u8 0, .int .u8 0, .int .u8 0, .int .u8 0, .int .u8 0, .int .u8 0, .int .u8 0, .int .u8 0, .int .u8 0, .int .u8 0, .int .u8 0, .int .u8 0, .int .u8 0, .int .u8 0, .int .u8 0, .int .u8 0, .int .u8 0, .int .u8 0, .int .u8 0, .int .u8 0, .int .u8 0, .int .u8 0, .int .u8 0, .int .u8 0, .int .u8 0, .int .u8 0, .int .u8 0, .int .u8 0, .int .u8 0, .int .u8 0, .int .u8 0, .int .u8 0, .int .u8 0, .int .u8 0, .int .u8 0, .int .u8 0, .int .u8 0, .int .u8 0, .int .u8 0, .int .u8 0, .int .u8 0, .int .u8 0, .int .u8 0, .int .u8 0, .int .u8 0, .int .u8 0, .int .u8 0, .int .u8 0, .int .u8 0, .int .u8 0, .int .u8 0, .int .u8 0, .int .u8 0, .int .u8 0, .int .u8 0]).cells.toList [(0, num x), (1, num y), (2, num z), (3, num t)] = some (wdL x y z t) := by kernel_rfl
theorem pt_fill (x y : Nat) : fillV [(0, 32), (32, 32)] (Value.agg #[.int .u8 0, .int .u8 0, .int .u8 0, .int .u8 0, .int .u8 0, .int .u8 0, .int .u8 0, .int .u8 0, .int .u8 0, .int .u8 0, .int .u8 0, .int .u8 0, .int .u8 0, .int .u8 0, .int .u8 0, .int .u8 0, .int .u8 0, .int .u8 0, .int .u8 0, .int .u8 0, .int .u8 0, .int .u8 0, .int .u8 0, .int .u8 0, .int .u8 0, .int .u8 0, .int .u8 0, .int .u8 0, .int .u8 0, .int .u8 0, .int .u8 0, .int .u8 0, .int .u8 0, .int .u8 0, .int .u8 0, .int .u8 0, .int .u8 0, .int .u8 0, .int .u8 0, .int .u8 0, .int .u8 0, .int .u8 0, .int .u8 0, .int .u8 0, .int .u8 0, .int .u8 0, .int .u8 0, .int .u8 0, .int .u8 0, .int .u8 0, .int .u8 0, .int .u8 0, .int .u8 0, .int .u8 0, .int .u8 0, .int .u8 0, .int .u8 0, .int .u8 0, .int .u8 0, .int .u8 0, .int .u8 0, .int .u8 0, .int .u8 0, .int .u8 0]).cells.toList [(0, num x), (1, num y)] = some (ptL x y) := by kernel_rfl
theorem pt_filly (y : Nat) : fillV [(0, 32), (32, 32)] (Value.agg #[.int .u8 0, .int .u8 0, .int .u8 0, .int .u8 0, .int .u8 0, .int .u8 0, .int .u8 0, .int .u8 0, .int .u8 0, .int .u8 0, .int .u8 0, .int .u8 0, .int .u8 0, .int .u8 0, .int .u8 0, .int .u8 0, .int .u8 0, .int .u8 0, .int .u8 0, .int .u8 0, .int .u8 0, .int .u8 0, .int .u8 0, .int .u8 0, .int .u8 0, .int .u8 0, .int .u8 0, .int .u8 0, .int .u8 0, .int .u8 0, .int .u8 0, .int .u8 0, .int .u8 0, .int .u8 0, .int .u8 0, .int .u8 0, .int .u8 0, .int .u8 0, .int .u8 0, .int .u8 0, .int .u8 0, .int .u8 0, .int .u8 0, .int .u8 0, .int .u8 0, .int .u8 0, .int .u8 0, .int .u8 0, .int .u8 0, .int .u8 0, .int .u8 0, .int .u8 0, .int .u8 0, .int .u8 0, .int .u8 0, .int .u8 0, .int .u8 0, .int .u8 0, .int .u8 0, .int .u8 0, .int .u8 0, .int .u8 0, .int .u8 0, .int .u8 0]).cells.toList [(1, num y)] = some (ptL 0 y) := by kernel_rfl
theorem pt_fill0 : fillV [(0, 32), (32, 32)] (Value.agg #[.int .u8 0, .int .u8 0, .int .u8 0, .int .u8 0, .int .u8 0, .int .u8 0, .int .u8 0, .int .u8 0, .int .u8 0, .int .u8 0, .int .u8 0, .int .u8 0, .int .u8 0, .int .u8 0, .int .u8 0, .int .u8 0, .int .u8 0, .int .u8 0, .int .u8 0, .int .u8 0, .int .u8 0, .int .u8 0, .int .u8 0, .int .u8 0, .int .u8 0, .int .u8 0, .int .u8 0, .int .u8 0, .int .u8 0, .int .u8 0, .int .u8 0, .int .u8 0, .int .u8 0, .int .u8 0, .int .u8 0, .int .u8 0, .int .u8 0, .int .u8 0, .int .u8 0, .int .u8 0, .int .u8 0, .int .u8 0, .int .u8 0, .int .u8 0, .int .u8 0, .int .u8 0, .int .u8 0, .int .u8 0, .int .u8 0, .int .u8 0, .int .u8 0, .int .u8 0, .int .u8 0, .int .u8 0, .int .u8 0, .int .u8 0, .int .u8 0, .int .u8 0, .int .u8 0, .int .u8 0, .int .u8 0, .int .u8 0, .int .u8 0, .int .u8 0]).cells.toList [] = some (ptL 0 0) := by kernel_rfl
section
variable {n : Nat} {e : Env} {w : World} {Q : Post} {ops : Array Oper} {rest : List Oper} {d : Nat} {ty : TypeId} {pos : String} {aft : Array Edge} {parts : List (Nat × Operand)}
theorem build_wd {x y z t : Nat} (hx : partsV (val e) parts = some [(0, num x), (1, num y), (2, num z), (3, num t)]) (hd : Nat.blt d n = true) (k : TL Try.prog n ops rest ((d, wd x y z t) :: e) w Q) : TL Try.prog n ops (⟨some d, .build 80 parts.toArray, ty, pos, aft, none⟩ :: rest) e w Q := TL.build hx (wd_fill x y z t) hd k
theorem build_pt {x y : Nat} (hx : partsV (val e) parts = some [(0, num x), (1, num y)]) (hd : Nat.blt d n = true) (k : TL Try.prog n ops rest ((d, pt (x, y)) :: e) w Q) : TL Try.prog n ops (⟨some d, .build 39 parts.toArray, ty, pos, aft, none⟩ :: rest) e w Q := TL.build hx (pt_fill x y) hd k
theorem build_pty {y : Nat} (hx : partsV (val e) parts = some [(1, num y)]) (hd : Nat.blt d n = true) (k : TL Try.prog n ops rest ((d, pt (0, y)) :: e) w Q) : TL Try.prog n ops (⟨some d, .build 39 parts.toArray, ty, pos, aft, none⟩ :: rest) e w Q := TL.build hx (pt_filly y) hd k
theorem build_pt0 (hx : partsV (val e) parts = some []) (hd : Nat.blt d n = true) (k : TL Try.prog n ops rest ((d, pt (0, 0)) :: e) w Q) : TL Try.prog n ops (⟨some d, .build 39 parts.toArray, ty, pos, aft, none⟩ :: rest) e w Q := TL.build hx (pt_fill0) hd k
end
theorem d_c (w : World) : Calls Try.prog 54 #[] w (Ret fun v w' => v = num dN ∧ Grow w w') := by
 refine V.calls (args := []) Try.func54 rfl Try.ntmps54 rfl rfl ?_
 repeat (first | refine TL.nil ?_ | refine thenQ_normal ?_ | refine T.seq ?_ | refine T.region ?_ | (refine TL.isStore ?_; (refine TL.storeWh rfl rfl yB (by exact rfl) (by exact rfl) (by exact rfl) ?_; intro w' hu hbk hsz)) | (refine TL.isAlloc ?_; (refine TL.alloc rfl rfl ?_; intro bk w' hg hbk hsz hsz')) | refine TL.buildArr rfl rfl rfl ?_ | refine T.ret ?_)
 exact retC rfl (load_whole (by assumption) rfl) ⟨_, rfl, rfl, yG⟩
theorem zero_c (w : World) : Calls Try.prog 46 #[] w (Ret fun v w' => v = pt zeroP ∧ Grow w w') := by
 refine V.calls (args := []) Try.func46 rfl Try.ntmps46 rfl rfl ?_
 repeat (first | refine TL.nil ?_ | refine thenQ_normal ?_ | refine T.seq ?_ | refine T.region ?_ | (refine TL.isStore ?_; (refine TL.storeWh rfl rfl yB (by exact rfl) (by exact rfl) (by exact rfl) ?_; intro w' hu hbk hsz)) | (refine TL.isAlloc ?_; (refine TL.alloc rfl rfl ?_; intro bk w' hg hbk hsz hsz')) | (refine TL.isBuild ?_; refine build_pty rfl rfl ?_) | refine T.ret ?_ | (refine TL.isFn 18 ?_; refine TL.call rfl (of_c 1 (by decide) _) rfl ?_; rintro _ _ ⟨rfl, hgc⟩))
 exact retC rfl (load_whole (by assumption) rfl) ⟨_, rfl, rfl, yG⟩
theorem widen_c (P : Pt) (h1 : P.1 < 115792089237316195423570985008687907853269984665640564039457584007913129639936) (h2 : P.2 < 115792089237316195423570985008687907853269984665640564039457584007913129639936) (w : World) : Calls Try.prog 80 #[pt P] w (Ret fun v w' => v = wd P.1 P.2 1 (fmul P.1 P.2) ∧ Grow w w') := by
 refine V.calls (args := [_]) Try.func80 rfl Try.ntmps80 rfl rfl ?_
 repeat (first | refine TL.nil ?_ | refine thenQ_normal ?_ | refine T.seq ?_ | refine T.region ?_ | (refine TL.isBox ?_; (refine TL.boxA rfl rfl ?_; intro bk w' hg hbk hsz hsz')) | (refine TL.isAlloc ?_; (refine TL.alloc rfl rfl ?_; intro bk w' hg hbk hsz hsz')))
 apply T.any 11 [is _, is _, is _, is _, is _, is _, is _, is _, is _, is _, is _]; (· kernel_rfl); (· ((repeat' (first | exact allDo_end | refine allDo_cons ?_ ?_)); (iterate 11 (· ((refine does_mk0 rfl rfl rfl ?_); ( intro wq _ _ hgq; (repeat (refine need_cons rfl rfl ?_; intro vq hvq; try (obtain rfl := hvq))); (refine need_nil ?_)); (repeat (first | refine TL.loadC rfl yB rfl ?_ | refine TL.fieldA0 rfl rfl ?_ | refine TL.nil ?_ | (refine TL.isBuild ?_; refine build_wd rfl rfl ?_) | (refine TL.isFn 18 ?_; refine TL.call rfl (of_c 1 (by decide) _) rfl ?_; rintro _ _ ⟨rfl, hgc⟩) | (refine TL.isFn 21 ?_; refine TL.call rfl (mul_f P.1 P.2 h1 h2 _) rfl ?_; rintro _ _ ⟨rfl, hgc⟩))); exact one_end rfl yG rfl))))); (rintro _ _ _ hgr _ _; (repeat (refine need_cons rfl rfl ?_; intro vq hvq; try (obtain rfl := hvq))); (refine need_nil ?_))
 repeat (first | refine TL.nil ?_ | refine thenQ_normal ?_ | (refine TL.isStore ?_; (refine TL.storeWh rfl rfl yB (by exact rfl) (by exact rfl) (by exact rfl) ?_; intro w' hu hbk hsz)) | refine T.ret ?_)
 exact retC rfl (load_whole (by assumption) rfl) ⟨_, rfl, rfl, yG⟩
end Go.Proofs.Ytmpjigghgedjbaa
namespace Go.Proofs.Ytmpjigghgedjbaa
open Go Go.RowKit Go.V Go.N
theorem finish_c (b x y z t e f g h : Nat) (he : e < 115792089237316195423570985008687907853269984665640564039457584007913129639936) (hf : f < 115792089237316195423570985008687907853269984665640564039457584007913129639936) (hg : g < 115792089237316195423570985008687907853269984665640564039457584007913129639936) (hh : h < 115792089237316195423570985008687907853269984665640564039457584007913129639936) (w : World) (m : Blk w b 80 (wdL x y z t)) :
  Calls Try.prog 98 #[.pointer (some ⟨b, 0, none⟩), num e, num f, num g, num h] w (Ret fun v w' => But b w w' ∧ Blk w' b 80 (wdL (fmul e f) (fmul g h) (fmul f g) (fmul e h))) := by
 refine V.calls (args := [_, _, _, _, _]) Try.func98 rfl Try.ntmps98 rfl rfl ?_
 have hb0 := m.lt
 refine T.cutAt 2 (fun e' v => ∃ b6 b7 b8 b9, Sub [(0, .pointer (some ⟨b, 0, none⟩)), (6, .pointer (some ⟨b6, 0, none⟩)), (7, .pointer (some ⟨b7, 0, none⟩)), (8, .pointer (some ⟨b8, 0, none⟩)), (9, .pointer (some ⟨b9, 0, none⟩))] e' ∧ Blk v b6 23 (numL e) ∧ Blk v b7 23 (numL f) ∧ Blk v b8 23 (numL g) ∧ Blk v b9 23 (numL h) ∧ (b6 ≠ b ∧ b7 ≠ b ∧ b8 ≠ b ∧ b9 ≠ b) ∧ Blk v b 80 (wdL (fmul e f) (fmul g h) z t) ∧ But b w v) ?_ ?_
 rotate_left
 ·repeat (first | refine TL.nil ?_ | refine T.region ?_ | (refine TL.isBox ?_; (refine TL.boxA rfl rfl ?_; intro bk w' hg hbk hsz hsz')) | refine uptoQ_normal ?_ | refine upto_seq ?_)
  rename_i b6 w6 g6 k6 z6 s6 b7 w7 g7 k7 z7 s7 b8 w8 g8 k8 z8 s8
  obtain ⟨b9, rfl⟩ : ∃ b9, b9 = bk := ⟨_, rfl⟩
  have m6 : Blk w' b6 23 (numL e) := by exact yB
  have m7 : Blk w' b7 23 (numL f) := by exact yB
  have m8 : Blk w' b8 23 (numL g) := by exact yB
  have m9 : Blk w' b9 23 (numL h) := by exact yB
  have m' : Blk w' b 80 (wdL x y z t) := by exact yB
  have := g6.2
  have := g7.2
  have := g8.2
  have hB : But b w w' := yW
  have n6 : b6 ≠ b := by omega
  have n7 : b7 ≠ b := by omega
  have n8 : b8 ≠ b := by omega
  have n9 : b9 ≠ b := by omega
  clear k6 k7 k8 hbk g6 g7 g8 hg z6 s6 z7 s7 z8 s8 hsz hsz' m hb0
  have hb0 := m'.lt
  have l6 := m6.lt
  have l7 := m7.lt
  have l8 := m8.lt
  have l9 := m9.lt
  apply T.anyF 8 1 3 11 (.pointer (some ⟨b, 0, none⟩)) [is _, is _, is _, is _, is _, is _, is _, is _] (by kernel_rfl) rfl rfl; (· ((repeat' (first | exact allDo_end | refine allDo_cons ?_ ?_)); (iterate 8 (· ((refine does_mk0 rfl rfl rfl ?_); ( intro wq _ _ hgq; (repeat (refine need_cons rfl rfl ?_; intro vq hvq; try (obtain rfl := hvq))); (refine need_nil ?_)); (repeat (first | (refine TL.isMove ?_; refine TL.pure rfl rfl ?_) | (refine TL.isLoad ?_; refine TL.loadW rfl yB (by exact rfl) rfl ?_) | refine TL.nil ?_ | (refine TL.isFn 21 ?_; refine TL.call rfl (mul_f _ _ (by assumption) (by assumption) _) rfl ?_; rintro _ _ ⟨rfl, hgc⟩))); exact one_end rfl yG rfl))))); (rintro _ _ _ hgr _ _; (repeat (refine need_cons rfl rfl ?_; intro vq hvq; try (obtain rfl := hvq))); (refine need_nil ?_); (refine ⟨by ((repeat (first | (refine TL.isMove ?_; refine TL.pure rfl rfl ?_) | refine TL.nil ?_)); exact ⟨rfl, rfl⟩), ?_, _, rfl, ?_⟩; (· ((repeat (first | refine TL.fieldA0 rfl rfl ?_ | refine TL.nil ?_ | (refine TL.isStore ?_; (refine TL.storeC rfl rfl yB rfl ?_; intro w' hu hbk hsz)) | refine TL.nilCheck rfl rfl ?_ | refine uptoQ_normal ?_ | refine upto_end ?_)); exact ⟨b6, b7, b8, b9, ⟨rfl, rfl, rfl, rfl, rfl, trivial⟩, yB, yB, yB, yB, ⟨n6, n7, n8, n9⟩, by assumption, yW⟩)); (· ((repeat (first | refine TL.nil ?_ | refine TL.nilCheck rfl rfl ?_)); ((refine ⟨by ((repeat (first | (refine TL.isMove ?_; refine TL.pure rfl rfl ?_) | refine TL.nil ?_)); exact ⟨rfl, rfl⟩), ?_, _, rfl, ?_⟩; (· ((repeat (first | refine TL.fieldA0 rfl rfl ?_ | refine TL.nil ?_ | (refine TL.isStore ?_; (refine TL.storeC rfl rfl yB rfl ?_; intro w' hu hbk hsz)) | refine TL.nilCheck rfl rfl ?_ | refine uptoQ_normal ?_ | refine upto_end ?_)); exact ⟨b6, b7, b8, b9, ⟨rfl, rfl, rfl, rfl, rfl, trivial⟩, yB, yB, yB, yB, ⟨n6, n7, n8, n9⟩, by assumption, yW⟩)); (· ((repeat (first | refine TL.fieldA0 rfl rfl ?_ | refine TL.nil ?_)); ((refine ⟨by ((repeat (first | (refine TL.isMove ?_; refine TL.pure rfl rfl ?_) | refine TL.nil ?_)); exact ⟨rfl, rfl⟩), ?_, _, rfl, ?_⟩; (· ((repeat (first | refine TL.fieldA0 rfl rfl ?_ | refine TL.nil ?_ | (refine TL.isStore ?_; (refine TL.storeC rfl rfl yB rfl ?_; intro w' hu hbk hsz)) | refine TL.nilCheck rfl rfl ?_ | refine uptoQ_normal ?_ | refine upto_end ?_)); exact ⟨b6, b7, b8, b9, ⟨rfl, rfl, rfl, rfl, rfl, trivial⟩, yB, yB, yB, yB, ⟨n6, n7, n8, n9⟩, by assumption, yW⟩)); (· ((repeat (first | refine TL.nil ?_ | (refine TL.isStore ?_; (refine TL.storeC rfl rfl yB rfl ?_; intro w' hu hbk hsz)))); ((refine ⟨by ((repeat (first | (refine TL.isMove ?_; refine TL.pure rfl rfl ?_) | refine TL.nil ?_)); exact ⟨rfl, rfl⟩), ?_⟩; (· ((repeat (first | refine TL.fieldA0 rfl rfl ?_ | refine TL.nil ?_ | (refine TL.isStore ?_; (refine TL.storeC rfl rfl yB rfl ?_; intro w' hu hbk hsz)) | refine TL.nilCheck rfl rfl ?_ | refine uptoQ_normal ?_ | refine upto_end ?_)); exact ⟨b6, b7, b8, b9, ⟨rfl, rfl, rfl, rfl, rfl, trivial⟩, yB, yB, yB, yB, ⟨n6, n7, n8, n9⟩, by assumption, yW⟩))))))))))))))))
 clear m hb0
 rintro e' w1 ⟨b6, b7, b8, b9, hsub, m6, m7, m8, m9, ⟨n6, n7, n8, n9⟩, m, hB⟩
 refine T.weaken (e' := [(0, _), (6, _), (7, _), (8, _), (9, _)]) ?_ hsub
 clear hsub
 have hb0 := m.lt
 have l6 := m6.lt
 have l7 := m7.lt
 have l8 := m8.lt
 have l9 := m9.lt
 apply T.anyF 8 1 3 23 (.pointer (some ⟨b, 0, none⟩)) [is _, is _, is _, is _, is _, is _, is _, is _] (by kernel_rfl) rfl rfl; (· ((repeat' (first | exact allDo_end | refine allDo_cons ?_ ?_)); (iterate 8 (· ((refine does_mk0 rfl rfl rfl ?_); ( intro wq _ _ hgq; (repeat (refine need_cons rfl rfl ?_; intro vq hvq; try (obtain rfl := hvq))); (refine need_nil ?_)); (repeat (first | (refine TL.isMove ?_; refine TL.pure rfl rfl ?_) | (refine TL.isLoad ?_; refine TL.loadW rfl yB (by exact rfl) rfl ?_) | refine TL.nil ?_ | (refine TL.isFn 21 ?_; refine TL.call rfl (mul_f _ _ (by assumption) (by assumption) _) rfl ?_; rintro _ _ ⟨rfl, hgc⟩))); exact one_end rfl yG rfl))))); (rintro _ _ _ hgr _ _; (repeat (refine need_cons rfl rfl ?_; intro vq hvq; try (obtain rfl := hvq))); (refine need_nil ?_); (refine ⟨by ((repeat (first | (refine TL.isMove ?_; refine TL.pure rfl rfl ?_) | refine TL.nil ?_)); exact ⟨rfl, rfl⟩), ?_, _, rfl, ?_⟩; (· ((repeat (first | refine TL.fieldA0 rfl rfl ?_ | refine TL.nil ?_ | (refine TL.isStore ?_; (refine TL.storeC rfl rfl yB rfl ?_; intro w' hu hbk hsz)) | refine TL.nilCheck rfl rfl ?_)); exact retQ_normal (vs := []) rfl rfl ⟨_, rfl, yW, by assumption⟩)); (· ((repeat (first | refine TL.nil ?_ | refine TL.nilCheck rfl rfl ?_)); ((refine ⟨by ((repeat (first | (refine TL.isMove ?_; refine TL.pure rfl rfl ?_) | refine TL.nil ?_)); exact ⟨rfl, rfl⟩), ?_, _, rfl, ?_⟩; (· ((repeat (first | refine TL.fieldA0 rfl rfl ?_ | refine TL.nil ?_ | (refine TL.isStore ?_; (refine TL.storeC rfl rfl yB rfl ?_; intro w' hu hbk hsz)) | refine TL.nilCheck rfl rfl ?_)); exact retQ_normal (vs := []) rfl rfl ⟨_, rfl, yW, by assumption⟩)); (· ((repeat (first | refine TL.fieldA0 rfl rfl ?_ | refine TL.nil ?_)); ((refine ⟨by ((repeat (first | (refine TL.isMove ?_; refine TL.pure rfl rfl ?_) | refine TL.nil ?_)); exact ⟨rfl, rfl⟩), ?_, _, rfl, ?_⟩; (· ((repeat (first | refine TL.fieldA0 rfl rfl ?_ | refine TL.nil ?_ | (refine TL.isStore ?_; (refine TL.storeC rfl rfl yB rfl ?_; intro w' hu hbk hsz)) | refine TL.nilCheck rfl rfl ?_)); exact retQ_normal (vs := []) rfl rfl ⟨_, rfl, yW, by assumption⟩)); (· ((repeat (first | refine TL.nil ?_ | (refine TL.isStore ?_; (refine TL.storeC rfl rfl yB rfl ?_; intro w' hu hbk hsz)))); ((refine ⟨by ((repeat (first | (refine TL.isMove ?_; refine TL.pure rfl rfl ?_) | refine TL.nil ?_)); exact ⟨rfl, rfl⟩), ?_⟩; (· ((repeat (first | refine TL.fieldA0 rfl rfl ?_ | refine TL.nil ?_ | (refine TL.isStore ?_; (refine TL.storeC rfl rfl yB rfl ?_; intro w' hu hbk hsz)) | refine TL.nilCheck rfl rfl ?_)); exact retQ_normal (vs := []) rfl rfl ⟨_, rfl, yW, by assumption⟩))))))))))))))))
theorem wadd_c (b c x y z t px py pz pt tw : Nat) (hx : x < 115792089237316195423570985008687907853269984665640564039457584007913129639936) (hy : y < 115792089237316195423570985008687907853269984665640564039457584007913129639936) (hz : z < 115792089237316195423570985008687907853269984665640564039457584007913129639936) (ht : t < 115792089237316195423570985008687907853269984665640564039457584007913129639936) (kx : px < 115792089237316195423570985008687907853269984665640564039457584007913129639936) (ky : py < 115792089237316195423570985008687907853269984665640564039457584007913129639936) (kz : pz < 115792089237316195423570985008687907853269984665640564039457584007913129639936) (kt : pt < 115792089237316195423570985008687907853269984665640564039457584007913129639936) (htw : tw < 115792089237316195423570985008687907853269984665640564039457584007913129639936) (hne : c ≠ b) (w : World)
  (m : Blk w b 80 (wdL x y z t)) (k : Blk w c 80 (wdL px py pz pt)) :
  Calls Try.prog 81 #[.pointer (some ⟨b, 0, none⟩), .pointer (some ⟨c, 0, none⟩), num tw] w (Ret fun v w' => But b w w' ∧
   Blk w' b 80 (wdL (fmul (fsub (xbE x y px py) (xaE x y px py)) (fsub (xdE z pz) (xcE t pt tw))) (fmul (fadd (xdE z pz) (xcE t pt tw)) (fadd (xbE x y px py) (xaE x y px py))) (fmul (fsub (xdE z pz) (xcE t pt tw)) (fadd (xdE z pz) (xcE t pt tw))) (fmul (fsub (xbE x y px py) (xaE x y px py)) (fadd (xbE x y px py) (xaE x y px py))))) := by
 refine V.calls (args := [_, _, _]) Try.func81 rfl Try.ntmps81 rfl rfl ?_
 have hb0 := m.lt
 have hc0 := k.lt
 repeat (first | refine TL.nil ?_ | refine thenQ_normal ?_ | refine T.seq ?_ | refine T.region ?_ | (refine TL.isBox ?_; (refine TL.boxA rfl rfl ?_; intro bk w' hg hbk hsz hsz')))
 apply T.any 20 [is _, is _, is _, is _, is _, is _, is _, is _, is _, is _, is _, is _, is _, is _, is _, is _, is _, is _, is _, newB 23 zeros]; (· kernel_rfl); (· ((repeat' (first | exact allDo_end | refine allDo_cons ?_ ?_)); (iterate 19 (· ((refine does_mk0 rfl rfl rfl ?_); ( intro wq _ _ hgq; (repeat (refine need_cons rfl rfl ?_; intro vq hvq; try (obtain rfl := hvq))); (refine need_nil ?_)); (repeat (first | (refine TL.isMove ?_; refine TL.pure rfl rfl ?_) | refine TL.loadC rfl yB rfl ?_ | refine TL.fieldA0 rfl rfl ?_ | refine TL.nil ?_ | refine TL.nilCheck rfl rfl ?_ | (refine TL.isFn 21 ?_; refine TL.call rfl (mul_f _ _ (by exact fsub_big _ _) (by exact fsub_big _ _) _) rfl ?_; rintro _ _ ⟨rfl, hgc⟩) | (refine TL.isFn 32 ?_; refine TL.call rfl (sub_f _ _ (by assumption) (by assumption) _) rfl ?_; rintro _ _ ⟨rfl, hgc⟩))); exact one_end rfl yG rfl))); ((refine does_mk0 rfl rfl rfl ?_); ( intro wq _ _ hgq; (repeat (refine need_cons rfl rfl ?_; intro vq hvq; try (obtain rfl := hvq))); (refine need_nil ?_)); (repeat (first | refine TL.nil ?_ | (refine TL.isAlloc ?_; (refine TL.alloc rfl rfl ?_; intro bk w' hg hbk hsz hsz')))); exact one_end rfl yG ⟨_, rfl, by omega, by omega, by assumption⟩))); (rintro _ _ _ hgr hspan _; (repeat (refine need_cons rfl rfl ?_; intro vq hvq; try (obtain rfl := hvq))); (refine need_nil ?_); obtain ⟨bn, rfl, hn1, hn2, hnb⟩ := hvq; have hsp := hspan 19 (by omega); replace hn1 := Nat.le_trans hsp.1 hn1; replace hn2 := Nat.lt_of_lt_of_le hn2 hsp.2.2; clear hspan hsp)
 obtain ⟨b5, rfl⟩ : ∃ q, q = bk := ⟨_, rfl⟩
 obtain ⟨b6, rfl⟩ : ∃ q, q = bn := ⟨_, rfl⟩
 have g5 : w.heap.size ≤ b5 := by omega
 have g6 : w.heap.size ≤ b6 := by omega
 have n56 : b6 ≠ b5 := by omega
 have n5b : b5 ≠ b := by omega
 have n5c : b5 ≠ c := by omega
 have n6b : b6 ≠ b := by omega
 have n6c : b6 ≠ c := by omega
 repeat (first | refine TL.nil ?_ | refine thenQ_normal ?_ | refine T.seq ?_ | (refine TL.isStore ?_; (refine TL.storeWh rfl rfl yB (by exact rfl) (by exact rfl) (by exact rfl) ?_; intro w' hu hbk hsz)))
 have m5 : Blk w' b5 23 (numL tw) := by exact yB
 have m6 : Blk w' b6 23 (numL (xaE x y px py)) := hbk
 have mb : Blk w' b 80 (wdL x y z t) := by exact yB
 have mc : Blk w' c 80 (wdL px py pz pt) := by exact yB
 have hG : Grow w w' := by exact yG
 refine T.weaken (e' := [(0, .pointer (some ⟨b, 0, none⟩)), (1, .pointer (some ⟨c, 0, none⟩)), (5, .pointer (some ⟨b5, 0, none⟩)), (6, .pointer (some ⟨b6, 0, none⟩))]) ?_ ⟨rfl, rfl, rfl, rfl, trivial⟩
 have l5 := m5.lt
 have l6 := m6.lt
 have lb := mb.lt
 have lc := mc.lt
 apply T.any 20 [is _, is _, is _, is _, is _, is _, is _, is _, is _, is _, is _, is _, is _, is _, is _, is _, is _, is _, is _, newB 23 zeros]; (· kernel_rfl); (· ((repeat' (first | exact allDo_end | refine allDo_cons ?_ ?_)); (iterate 19 (· ((refine does_mk0 rfl rfl rfl ?_); ( intro wq _ _ hgq; (repeat (refine need_cons rfl rfl ?_; intro vq hvq; try (obtain rfl := hvq))); (refine need_nil ?_)); (repeat (first | (refine TL.isMove ?_; refine TL.pure rfl rfl ?_) | refine TL.loadC rfl yB rfl ?_ | refine TL.fieldA0 rfl rfl ?_ | refine TL.nil ?_ | refine TL.nilCheck rfl rfl ?_ | (refine TL.isFn 21 ?_; refine TL.call rfl (mul_f _ _ (by exact fadd_big _ _) (by exact fadd_big _ _) _) rfl ?_; rintro _ _ ⟨rfl, hgc⟩) | (refine TL.isFn 30 ?_; refine TL.call rfl (add_f _ _ (by assumption) (by assumption) _) rfl ?_; rintro _ _ ⟨rfl, hgc⟩))); exact one_end rfl yG rfl))); ((refine does_mk0 rfl rfl rfl ?_); ( intro wq _ _ hgq; (repeat (refine need_cons rfl rfl ?_; intro vq hvq; try (obtain rfl := hvq))); (refine need_nil ?_)); (repeat (first | refine TL.nil ?_ | (refine TL.isAlloc ?_; (refine TL.alloc rfl rfl ?_; intro bk w' hg hbk hsz hsz')))); exact one_end rfl yG ⟨_, rfl, by omega, by omega, by assumption⟩))); (rintro _ _ _ hgr hspan _; (repeat (refine need_cons rfl rfl ?_; intro vq hvq; try (obtain rfl := hvq))); (refine need_nil ?_); obtain ⟨bn, rfl, hn1, hn2, hnb⟩ := hvq; have hsp := hspan 19 (by omega); replace hn1 := Nat.le_trans hsp.1 hn1; replace hn2 := Nat.lt_of_lt_of_le hn2 hsp.2.2; clear hspan hsp)
 obtain ⟨b7, rfl⟩ : ∃ q, q = bn := ⟨_, rfl⟩
 have g7 : w.heap.size ≤ b7 := by have := hG.2; omega
 have n75 : b7 ≠ b5 := by omega
 have n76 : b7 ≠ b6 := by omega
 have n7b : b7 ≠ b := by omega
 have n7c : b7 ≠ c := by omega
 repeat (first | refine TL.nil ?_ | refine thenQ_normal ?_ | refine T.seq ?_ | (refine TL.isStore ?_; (refine TL.storeWh rfl rfl yB (by exact rfl) (by exact rfl) (by exact rfl) ?_; intro w' hu hbk hsz)))
 have k5 : Blk w' b5 23 (numL tw) := by exact yB
 have k6 : Blk w' b6 23 (numL (xaE x y px py)) := by exact yB
 have k7 : Blk w' b7 23 (numL (xbE x y px py)) := hbk
 have kb : Blk w' b 80 (wdL x y z t) := by exact yB
 have kc : Blk w' c 80 (wdL px py pz pt) := by exact yB
 have kG : Grow w w' := by exact yG
 refine T.weaken (e' := [(0, .pointer (some ⟨b, 0, none⟩)), (1, .pointer (some ⟨c, 0, none⟩)), (5, .pointer (some ⟨b5, 0, none⟩)), (6, .pointer (some ⟨b6, 0, none⟩)), (7, .pointer (some ⟨b7, 0, none⟩))]) ?_ ⟨rfl, rfl, rfl, rfl, rfl, trivial⟩
 clear m5 m6 mb mc hG l5 l6 lb lc
 have l5 := k5.lt
 have l6 := k6.lt
 have l7 := k7.lt
 have lb := kb.lt
 have lc := kc.lt
 apply T.any 12 [is _, is _, is _, is _, is _, is _, is _, is _, is _, is _, is _, newB 23 zeros]; (· kernel_rfl); (· ((repeat' (first | exact allDo_end | refine allDo_cons ?_ ?_)); (iterate 11 (· ((refine does_mk0 rfl rfl rfl ?_); ( intro wq _ _ hgq; (repeat (refine need_cons rfl rfl ?_; intro vq hvq; try (obtain rfl := hvq))); (refine need_nil ?_)); (repeat (first | (refine TL.isMove ?_; refine TL.pure rfl rfl ?_) | (refine TL.isLoad ?_; first | refine TL.loadW rfl yB (by exact rfl) rfl ?_ | refine TL.loadC rfl yB rfl ?_) | refine TL.fieldA0 rfl rfl ?_ | refine TL.nil ?_ | refine TL.nilCheck rfl rfl ?_ | (refine TL.isFn 21 ?_; refine TL.call rfl (mul_f _ _ (by first | assumption | exact fmul_big _ _) (by assumption) _) rfl ?_; rintro _ _ ⟨rfl, hgc⟩))); exact one_end rfl yG rfl))); ((refine does_mk0 rfl rfl rfl ?_); ( intro wq _ _ hgq; (repeat (refine need_cons rfl rfl ?_; intro vq hvq; try (obtain rfl := hvq))); (refine need_nil ?_)); (repeat (first | refine TL.nil ?_ | (refine TL.isAlloc ?_; (refine TL.alloc rfl rfl ?_; intro bk w' hg hbk hsz hsz')))); exact one_end rfl yG ⟨_, rfl, by omega, by omega, by assumption⟩))); (rintro _ _ _ hgr hspan _; (repeat (refine need_cons rfl rfl ?_; intro vq hvq; try (obtain rfl := hvq))); (refine need_nil ?_); obtain ⟨bn, rfl, hn1, hn2, hnb⟩ := hvq; have hsp := hspan 11 (by omega); replace hn1 := Nat.le_trans hsp.1 hn1; replace hn2 := Nat.lt_of_lt_of_le hn2 hsp.2.2; clear hspan hsp)
 obtain ⟨b8, rfl⟩ : ∃ q, q = bn := ⟨_, rfl⟩
 have g8 : w.heap.size ≤ b8 := by have := kG.2; omega
 have n85 : b8 ≠ b5 := by omega
 have n86 : b8 ≠ b6 := by omega
 have n87 : b8 ≠ b7 := by omega
 have n8b : b8 ≠ b := by omega
 have n8c : b8 ≠ c := by omega
 repeat (first | refine TL.nil ?_ | refine thenQ_normal ?_ | refine T.seq ?_ | (refine TL.isStore ?_; (refine TL.storeWh rfl rfl yB (by exact rfl) (by exact rfl) (by exact rfl) ?_; intro w' hu hbk hsz)))
 have m6 : Blk w' b6 23 (numL (xaE x y px py)) := by exact yB
 have m7 : Blk w' b7 23 (numL (xbE x y px py)) := by exact yB
 have m8 : Blk w' b8 23 (numL (xcE t pt tw)) := hbk
 have mb : Blk w' b 80 (wdL x y z t) := by exact yB
 have mc : Blk w' c 80 (wdL px py pz pt) := by exact yB
 have hG : Grow w w' := by exact yG
 refine T.weaken (e' := [(0, .pointer (some ⟨b, 0, none⟩)), (1, .pointer (some ⟨c, 0, none⟩)), (6, .pointer (some ⟨b6, 0, none⟩)), (7, .pointer (some ⟨b7, 0, none⟩)), (8, .pointer (some ⟨b8, 0, none⟩))]) ?_ ⟨rfl, rfl, rfl, rfl, rfl, trivial⟩
 clear k5 k6 k7 kb kc kG l5 l6 l7 lb lc
 have l6 := m6.lt
 have l7 := m7.lt
 have l8 := m8.lt
 have lb := mb.lt
 have lc := mc.lt
 apply T.any 10 [is _, is _, is _, is _, is _, is _, is _, is _, is _, newB 23 zeros]; (· kernel_rfl); (· ((repeat' (first | exact allDo_end | refine allDo_cons ?_ ?_)); (iterate 9 (· ((refine does_mk0 rfl rfl rfl ?_); ( intro wq _ _ hgq; (repeat (refine need_cons rfl rfl ?_; intro vq hvq; try (obtain rfl := hvq))); (refine need_nil ?_)); (repeat (first | (refine TL.isMove ?_; refine TL.pure rfl rfl ?_) | refine TL.loadC rfl yB rfl ?_ | refine TL.fieldA0 rfl rfl ?_ | refine TL.nil ?_ | refine TL.nilCheck rfl rfl ?_ | (refine TL.isFn 21 ?_; refine TL.call rfl (mul_f _ _ (by assumption) (by assumption) _) rfl ?_; rintro _ _ ⟨rfl, hgc⟩))); exact one_end rfl yG rfl))); ((refine does_mk0 rfl rfl rfl ?_); ( intro wq _ _ hgq; (repeat (refine need_cons rfl rfl ?_; intro vq hvq; try (obtain rfl := hvq))); (refine need_nil ?_)); (repeat (first | refine TL.nil ?_ | (refine TL.isAlloc ?_; (refine TL.alloc rfl rfl ?_; intro bk w' hg hbk hsz hsz')))); exact one_end rfl yG ⟨_, rfl, by omega, by omega, by assumption⟩))); (rintro _ _ _ hgr hspan _; (repeat (refine need_cons rfl rfl ?_; intro vq hvq; try (obtain rfl := hvq))); (refine need_nil ?_); obtain ⟨bn, rfl, hn1, hn2, hnb⟩ := hvq; have hsp := hspan 9 (by omega); replace hn1 := Nat.le_trans hsp.1 hn1; replace hn2 := Nat.lt_of_lt_of_le hn2 hsp.2.2; clear hspan hsp)
 obtain ⟨b9, rfl⟩ : ∃ q, q = bn := ⟨_, rfl⟩
 have g9 : w.heap.size ≤ b9 := by have := hG.2; omega
 have n96 : b9 ≠ b6 := by omega
 have n97 : b9 ≠ b7 := by omega
 have n98 : b9 ≠ b8 := by omega
 have n9b : b9 ≠ b := by omega
 repeat (first | (refine TL.isLoad ?_; refine TL.loadW rfl yB (by exact rfl) rfl ?_) | refine TL.nil ?_ | refine thenQ_normal ?_ | refine T.seq ?_ | refine T.region ?_ | (refine TL.isStore ?_; (refine TL.storeWh rfl rfl yB (by exact rfl) (by exact rfl) (by exact rfl) ?_; intro w' hu hbk hsz)) | (refine TL.isFn 30 ?_; refine TL.call rfl (add_f _ _ (by exact fmul_big _ _) (by exact fmul_big _ _) _) rfl ?_; rintro _ _ ⟨rfl, hgc⟩))
 have k6 : Blk w' b6 23 (numL (xaE x y px py)) := by exact yB
 have k7 : Blk w' b7 23 (numL (xbE x y px py)) := by exact yB
 have k8 : Blk w' b8 23 (numL (xcE t pt tw)) := by exact yB
 have k9 : Blk w' b9 23 (numL (xdE z pz)) := hbk
 have kb : Blk w' b 80 (wdL x y z t) := by exact yB
 have kG : Grow w w' := by exact yG
 refine T.weaken (e' := [(0, .pointer (some ⟨b, 0, none⟩)), (6, .pointer (some ⟨b6, 0, none⟩)), (7, .pointer (some ⟨b7, 0, none⟩)), (8, .pointer (some ⟨b8, 0, none⟩)), (9, .pointer (some ⟨b9, 0, none⟩))]) ?_ ⟨rfl, rfl, rfl, rfl, rfl, trivial⟩
 have e6 : xaE x y px py < 115792089237316195423570985008687907853269984665640564039457584007913129639936 := fmul_big _ _
 have e7 : xbE x y px py < 115792089237316195423570985008687907853269984665640564039457584007913129639936 := fmul_big _ _
 have e8 : xcE t pt tw < 115792089237316195423570985008687907853269984665640564039457584007913129639936 := fmul_big _ _
 have e9 : xdE z pz < 115792089237316195423570985008687907853269984665640564039457584007913129639936 := fadd_big _ _
 generalize xaE x y px py = A at *
 generalize xbE x y px py = B at *
 generalize xcE t pt tw = C at *
 generalize xdE z pz = D at *
 have l6 := k6.lt
 have l7 := k7.lt
 have l8 := k8.lt
 have l9 := k9.lt
 have lb := kb.lt
 apply T.any 13 [is _, is _, is _, is _, is _, is _, is _, is _, is _, is _, is _, is _, is _]; (· kernel_rfl); (· ((repeat' (first | exact allDo_end | refine allDo_cons ?_ ?_)); (iterate 13 (· ((refine does_mk0 rfl rfl rfl ?_); ( intro wq _ _ hgq; (repeat (refine need_cons rfl rfl ?_; intro vq hvq; try (obtain rfl := hvq))); (refine need_nil ?_)); (repeat (first | (refine TL.isMove ?_; refine TL.pure rfl rfl ?_) | (refine TL.isLoad ?_; refine TL.loadW rfl yB (by exact rfl) rfl ?_) | refine TL.nil ?_ | (refine TL.isFn 30 ?_; refine TL.call rfl (add_f _ _ (by assumption) (by assumption) _) rfl ?_; rintro _ _ ⟨rfl, hgc⟩) | (refine TL.isFn 32 ?_; refine TL.call rfl (sub_f _ _ (by assumption) (by assumption) _) rfl ?_; rintro _ _ ⟨rfl, hgc⟩))); exact one_end rfl yG rfl))))); (rintro _ _ _ hgr _ _; (repeat (refine need_cons rfl rfl ?_; intro vq hvq; try (obtain rfl := hvq))); (refine need_nil ?_))
 refine TL.call rfl (finish_c b x y z t _ _ _ _ (fsub_big _ _) (fsub_big _ _) (fadd_big _ _) (fadd_big _ _) _ yB) rfl ?_
 rintro _ w9 ⟨hB9, hm9⟩
 repeat (refine TL.nil ?_)
 exact retQ_normal (vs := []) rfl rfl ⟨_, rfl, but_but hB9 yW, hm9⟩
theorem wdouble_c (b x y z t : Nat) (hx : x < 115792089237316195423570985008687907853269984665640564039457584007913129639936) (hy : y < 115792089237316195423570985008687907853269984665640564039457584007913129639936) (hz : z < 115792089237316195423570985008687907853269984665640564039457584007913129639936) (ht : t < 115792089237316195423570985008687907853269984665640564039457584007913129639936) (w : World) (m : Blk w b 80 (wdL x y z t)) :
  Calls Try.prog 83 #[.pointer (some ⟨b, 0, none⟩)] w (Ret fun v w' => But b w w' ∧
   Blk w' b 80 (wdL (fmul (deE x y) (dfE x y z)) (fmul (dgE x y) (dhE x y)) (fmul (dfE x y z) (dgE x y)) (fmul (deE x y) (dhE x y)))) := by
 refine V.calls (args := [_]) Try.func83 rfl Try.ntmps83 rfl rfl ?_
 have hb0 := m.lt
 refine T.seq ?_
 (apply T.any 30 [is _, is _, is _, is _, is _, is _, is _, is _, is _, is _, is _, is _, is _, is _, is _, is _, is _, is _, is _, is _, is _, is _, is _, is _, is _, is _, is _, newB 23 zeros, newB 23 zeros, newB 23 zeros]; (· kernel_rfl); (· ((repeat' (first | exact allDo_end | refine allDo_cons ?_ ?_)); (iterate 27 (· ((refine does_mk0 rfl rfl rfl ?_); ( intro wq _ _ hgq; (repeat (refine need_cons rfl rfl ?_; intro vq hvq; try (obtain rfl := hvq))); (refine need_nil ?_)); (repeat (first | (refine TL.isMove ?_; refine TL.pure rfl rfl ?_) | refine TL.loadC rfl yB rfl ?_ | refine TL.fieldA0 rfl rfl ?_ | refine TL.nil ?_ | refine TL.nilCheck rfl rfl ?_ | (refine TL.isFn 21 ?_; refine TL.call rfl (mul_f _ _ (by assumption) (by assumption) _) rfl ?_; rintro _ _ ⟨rfl, hgc⟩))); exact one_end rfl yG rfl))); (iterate 3 (· (refine does_mk0 rfl rfl rfl ?_); ( intro wq _ _ hgq; (repeat (refine need_cons rfl rfl ?_; intro vq hvq; try (obtain rfl := hvq))); (refine need_nil ?_)); (repeat (first | refine TL.nil ?_ | (refine TL.isAlloc ?_; (refine TL.alloc rfl rfl ?_; intro bk w' hg hbk hsz hsz')))); exact one_end rfl yG ⟨_, rfl, by omega, by omega, by assumption⟩)))); (rintro _ _ _ hgr hspan hdj; (repeat (refine need_cons rfl rfl ?_; intro vq hvq; try (obtain rfl := hvq))); (refine need_nil ?_)); obtain ⟨bn3, rfl, hl3, hh3, hnb3⟩ := hvq; obtain ⟨bn2, rfl, hl2, hh2, hnb2⟩ := hvq; obtain ⟨bn1, rfl, hl1, hh1, hnb1⟩ := hvq; (try simp only [Nat.reduceAdd] at hl1 hh1 hl2 hh2 hl3 hh3); have hd21 : bn2 ≠ bn1 := (by have hz := hdj 28 27 (by omega) (by omega) (by omega); omega); have hd31 : bn3 ≠ bn1 := (by have hz := hdj 29 27 (by omega) (by omega) (by omega); omega); have hd32 : bn3 ≠ bn2 := (by have hz := hdj 29 28 (by omega) (by omega) (by omega); omega); have hsp := hspan 27 (by omega); replace hl1 := Nat.le_trans hsp.1 hl1; replace hh1 := Nat.lt_of_lt_of_le hh1 hsp.2.2; clear hsp; have hsp := hspan 28 (by omega); replace hl2 := Nat.le_trans hsp.1 hl2; replace hh2 := Nat.lt_of_lt_of_le hh2 hsp.2.2; clear hsp; have hsp := hspan 29 (by omega); replace hl3 := Nat.le_trans hsp.1 hl3; replace hh3 := Nat.lt_of_lt_of_le hh3 hsp.2.2; clear hsp; clear hspan hdj)
 obtain ⟨b2, rfl⟩ : ∃ q, q = bn1 := ⟨_, rfl⟩
 obtain ⟨b3, rfl⟩ : ∃ q, q = bn2 := ⟨_, rfl⟩
 obtain ⟨b4, rfl⟩ : ∃ q, q = bn3 := ⟨_, rfl⟩
 have g2 : w.heap.size ≤ b2 := by omega
 have g3 : w.heap.size ≤ b3 := by omega
 have g4 : w.heap.size ≤ b4 := by omega
 have n2b : b2 ≠ b := by omega
 have n3b : b3 ≠ b := by omega
 have n4b : b4 ≠ b := by omega
 repeat (first | refine TL.nil ?_ | refine thenQ_normal ?_ | refine T.seq ?_ | (refine TL.isStore ?_; (refine TL.storeWh rfl rfl yB (by exact rfl) (by exact rfl) (by exact rfl) ?_; intro w' hu hbk hsz)))
 have m2 : Blk w' b2 23 (numL (fmul x x)) := by exact yB
 have m3 : Blk w' b3 23 (numL (fmul y y)) := by exact yB
 have m4 : Blk w' b4 23 (numL (fmul z z)) := by exact yB
 have mb : Blk w' b 80 (wdL x y z t) := by exact yB
 have hG : Grow w w' := by exact yG
 refine T.weaken (e' := [(0, .pointer (some ⟨b, 0, none⟩)), (2, .pointer (some ⟨b2, 0, none⟩)), (3, .pointer (some ⟨b3, 0, none⟩)), (4, .pointer (some ⟨b4, 0, none⟩))]) ?_ ⟨rfl, rfl, rfl, rfl, trivial⟩
 have l2 := m2.lt
 have l3 := m3.lt
 have l4 := m4.lt
 have lb := mb.lt
 have n32 : b3 ≠ b2 := by omega
 have n42 : b4 ≠ b2 := by omega
 have n43 : b4 ≠ b3 := by omega
 clear m
 apply T.any 10 [is _, is _, is _, is _, is _, is _, is _, is _, is _, newB 23 zeros]; (· kernel_rfl); (· ((repeat' (first | exact allDo_end | refine allDo_cons ?_ ?_)); (iterate 9 (· ((refine does_mk0 rfl rfl rfl ?_); ( intro wq _ _ hgq; (repeat (refine need_cons rfl rfl ?_; intro vq hvq; try (obtain rfl := hvq))); (refine need_nil ?_)); (repeat (first | (refine TL.isMove ?_; refine TL.pure rfl rfl ?_) | refine TL.loadC rfl yB rfl ?_ | refine TL.fieldA0 rfl rfl ?_ | refine TL.nil ?_ | refine TL.nilCheck rfl rfl ?_ | (refine TL.isFn 30 ?_; refine TL.call rfl (add_f _ _ (by assumption) (by assumption) _) rfl ?_; rintro _ _ ⟨rfl, hgc⟩))); exact one_end rfl yG rfl))); ((refine does_mk0 rfl rfl rfl ?_); ( intro wq _ _ hgq; (repeat (refine need_cons rfl rfl ?_; intro vq hvq; try (obtain rfl := hvq))); (refine need_nil ?_)); (repeat (first | refine TL.nil ?_ | (refine TL.isAlloc ?_; (refine TL.alloc rfl rfl ?_; intro bk w' hg hbk hsz hsz')))); exact one_end rfl yG ⟨_, rfl, by omega, by omega, by assumption⟩))); (rintro _ _ _ hgr hspan _; (repeat (refine need_cons rfl rfl ?_; intro vq hvq; try (obtain rfl := hvq))); (refine need_nil ?_); obtain ⟨bn, rfl, hn1, hn2, hnb⟩ := hvq; have hsp := hspan 9 (by omega); replace hn1 := Nat.le_trans hsp.1 hn1; replace hn2 := Nat.lt_of_lt_of_le hn2 hsp.2.2; clear hspan hsp)
 obtain ⟨b5, rfl⟩ : ∃ q, q = bn := ⟨_, rfl⟩
 have g5 : w.heap.size ≤ b5 := by have := hG.2; omega
 have n5b : b5 ≠ b := by omega
 have n52 : b5 ≠ b2 := by omega
 have n53 : b5 ≠ b3 := by omega
 have n54 : b5 ≠ b4 := by omega
 repeat (first | (refine TL.isLoad ?_; refine TL.loadW rfl yB (by exact rfl) rfl ?_) | refine TL.nil ?_ | refine thenQ_normal ?_ | refine T.seq ?_ | refine T.region ?_ | (refine TL.isStore ?_; (refine TL.storeWh rfl rfl yB (by exact rfl) (by exact rfl) (by exact rfl) ?_; intro w' hu hbk hsz)) | (refine TL.isAlloc ?_; (refine TL.alloc rfl rfl ?_; intro bk w' hg hbk hsz hsz')) | (refine TL.isFn 30 ?_; refine TL.call rfl (add_f _ _ (by exact fmul_big _ _) (by exact fmul_big _ _) _) rfl ?_; rintro _ _ ⟨rfl, hgc⟩))
 have k2 : Blk w' b2 23 (numL (fmul x x)) := by exact yB
 have k3 : Blk w' b3 23 (numL (fmul y y)) := by exact yB
 have k4 : Blk w' b4 23 (numL (fmul z z)) := by exact yB
 have k5 : Blk w' b5 23 (numL (fadd x y)) := by exact yB
 have kb : Blk w' b 80 (wdL x y z t) := by exact yB
 have kG : Grow w w' := by exact yG
 obtain ⟨b6, rfl⟩ : ∃ q, q = bk := ⟨_, rfl⟩
 have k6 : Blk w' b6 23 (numL (dhE x y)) := hbk
 have g6 : w.heap.size ≤ b6 := by have := hG.2; omega
 have n6b : b6 ≠ b := by omega
 have n62 : b6 ≠ b2 := by omega
 have n63 : b6 ≠ b3 := by omega
 have n64 : b6 ≠ b4 := by omega
 have n65 : b6 ≠ b5 := by omega
 refine T.weaken (e' := [(0, .pointer (some ⟨b, 0, none⟩)), (2, .pointer (some ⟨b2, 0, none⟩)), (3, .pointer (some ⟨b3, 0, none⟩)), (4, .pointer (some ⟨b4, 0, none⟩)), (5, .pointer (some ⟨b5, 0, none⟩)), (6, .pointer (some ⟨b6, 0, none⟩))]) ?_ ⟨rfl, rfl, rfl, rfl, rfl, rfl, trivial⟩
 clear m2 m3 m4 mb hG l2 l3 l4 lb
 have l2 := k2.lt
 have l3 := k3.lt
 have l4 := k4.lt
 have l5 := k5.lt
 have l6 := k6.lt
 have lb := kb.lt
 have e6 : dhE x y < 115792089237316195423570985008687907853269984665640564039457584007913129639936 := fadd_big _ _
 apply T.any 6 [is _, is _, is _, is _, is _, newB 23 zeros]; (· kernel_rfl); (· ((repeat' (first | exact allDo_end | refine allDo_cons ?_ ?_)); (iterate 5 (· ((refine does_mk0 rfl rfl rfl ?_); ( intro wq _ _ hgq; (repeat (refine need_cons rfl rfl ?_; intro vq hvq; try (obtain rfl := hvq))); (refine need_nil ?_)); (repeat (first | (refine TL.isLoad ?_; refine TL.loadW rfl yB (by exact rfl) rfl ?_) | refine TL.nil ?_ | (refine TL.isFn 21 ?_; refine TL.call rfl (mul_f _ _ (by exact fadd_big _ _) (by exact fadd_big _ _) _) rfl ?_; rintro _ _ ⟨rfl, hgc⟩) | (refine TL.isFn 32 ?_; refine TL.call rfl (sub_f _ _ (by assumption) (by exact fmul_big _ _) _) rfl ?_; rintro _ _ ⟨rfl, hgc⟩))); exact one_end rfl yG rfl))); ((refine does_mk0 rfl rfl rfl ?_); ( intro wq _ _ hgq; (repeat (refine need_cons rfl rfl ?_; intro vq hvq; try (obtain rfl := hvq))); (refine need_nil ?_)); (repeat (first | refine TL.nil ?_ | (refine TL.isAlloc ?_; (refine TL.alloc rfl rfl ?_; intro bk w' hg hbk hsz hsz')))); exact one_end rfl yG ⟨_, rfl, by omega, by omega, by assumption⟩))); (rintro _ _ _ hgr hspan _; (repeat (refine need_cons rfl rfl ?_; intro vq hvq; try (obtain rfl := hvq))); (refine need_nil ?_); obtain ⟨bn, rfl, hn1, hn2, hnb⟩ := hvq; have hsp := hspan 5 (by omega); replace hn1 := Nat.le_trans hsp.1 hn1; replace hn2 := Nat.lt_of_lt_of_le hn2 hsp.2.2; clear hspan hsp)
 obtain ⟨b7, rfl⟩ : ∃ q, q = bn := ⟨_, rfl⟩
 have g7 : w.heap.size ≤ b7 := by have := kG.2; omega
 have n7b : b7 ≠ b := by omega
 have n72 : b7 ≠ b2 := by omega
 have n73 : b7 ≠ b3 := by omega
 have n74 : b7 ≠ b4 := by omega
 have n76 : b7 ≠ b6 := by omega
 repeat (first | (refine TL.isLoad ?_; refine TL.loadW rfl yB (by exact rfl) rfl ?_) | refine TL.nil ?_ | refine thenQ_normal ?_ | refine T.seq ?_ | refine T.region ?_ | (refine TL.isStore ?_; (refine TL.storeWh rfl rfl yB (by exact rfl) (by exact rfl) (by exact rfl) ?_; intro w' hu hbk hsz)) | (refine TL.isAlloc ?_; (refine TL.alloc rfl rfl ?_; intro bk w' hg hbk hsz hsz')) | (refine TL.isFn 32 ?_; refine TL.call rfl (sub_f _ _ (by exact fmul_big _ _) (by exact fmul_big _ _) _) rfl ?_; rintro _ _ ⟨rfl, hgc⟩))
 obtain ⟨b8, rfl⟩ : ∃ q, q = bk := ⟨_, rfl⟩
 have n8b : b8 ≠ b := by omega
 have n84 : b8 ≠ b4 := by omega
 have n86 : b8 ≠ b6 := by omega
 have n87 : b8 ≠ b7 := by omega
 have g8 : w.heap.size ≤ b8 := by have := kG.2; omega
 have m4 : Blk w' b4 23 (numL (fmul z z)) := by exact yB
 have m6 : Blk w' b6 23 (numL (dhE x y)) := by exact yB
 have m7 : Blk w' b7 23 (numL (deE x y)) := by exact yB
 have m8 : Blk w' b8 23 (numL (dgE x y)) := hbk
 have mb : Blk w' b 80 (wdL x y z t) := by exact yB
 have hG : Grow w w' := by exact yG
 refine T.weaken (e' := [(0, .pointer (some ⟨b, 0, none⟩)), (4, .pointer (some ⟨b4, 0, none⟩)), (6, .pointer (some ⟨b6, 0, none⟩)), (7, .pointer (some ⟨b7, 0, none⟩)), (8, .pointer (some ⟨b8, 0, none⟩))]) ?_ ⟨rfl, rfl, rfl, rfl, rfl, trivial⟩
 clear k2 k3 k4 k5 k6 kb kG l2 l3 l4 l5 l6 lb
 have e7 : deE x y < 115792089237316195423570985008687907853269984665640564039457584007913129639936 := fsub_big _ _
 have e8 : dgE x y < 115792089237316195423570985008687907853269984665640564039457584007913129639936 := fsub_big _ _
 have l4 := m4.lt
 have l6 := m6.lt
 have l7 := m7.lt
 have l8 := m8.lt
 have lb := mb.lt
 apply T.any 9 [is _, is _, is _, is _, is _, is _, is _, is _, is _]; (· kernel_rfl); (· ((repeat' (first | exact allDo_end | refine allDo_cons ?_ ?_)); (iterate 9 (· ((refine does_mk0 rfl rfl rfl ?_); ( intro wq _ _ hgq; (repeat (refine need_cons rfl rfl ?_; intro vq hvq; try (obtain rfl := hvq))); (refine need_nil ?_)); (repeat (first | (refine TL.isMove ?_; refine TL.pure rfl rfl ?_) | (refine TL.isLoad ?_; refine TL.loadW rfl yB (by exact rfl) rfl ?_) | refine TL.nil ?_ | (refine TL.isFn 30 ?_; refine TL.call rfl (add_f _ _ (by first | exact fmul_big _ _ | exact fadd_big _ _) (by first | assumption | exact fmul_big _ _) _) rfl ?_; rintro _ _ ⟨rfl, hgc⟩))); exact one_end rfl yG rfl))))); (rintro _ _ _ hgr _ _; (repeat (refine need_cons rfl rfl ?_; intro vq hvq; try (obtain rfl := hvq))); (refine need_nil ?_))
 refine TL.call rfl (finish_c b x y z t (deE x y) (dfE x y z) (dgE x y) (dhE x y) e7 (fadd_big _ _) e8 e6 _ yB) rfl ?_
 rintro _ w9 ⟨hB9, hm9⟩
 repeat (refine TL.nil ?_)
 exact retQ_normal (vs := []) rfl rfl ⟨_, rfl, but_but hB9 yW, hm9⟩
theorem point_c (b x y z t : Nat) (P : Pt) (hP : Val P) (h : Ext x y z t P) (hx : x < 115792089237316195423570985008687907853269984665640564039457584007913129639936) (hy : y < 115792089237316195423570985008687907853269984665640564039457584007913129639936) (hz : z < 115792089237316195423570985008687907853269984665640564039457584007913129639936) (w : World) (m : Blk w b 80 (wdL x y z t)) :
  Calls Try.prog 82 #[.pointer (some ⟨b, 0, none⟩)] w (Ret fun v w' => v = pt P ∧ Grow w w') := by
 refine V.calls (args := [_]) Try.func82 rfl Try.ntmps82 rfl rfl ?_
 have hb0 := m.lt
 obtain ⟨p1, p2⟩ := ext_point hP h
 have hpw := pw_big z 57896044618658097711785492504343953926634992332820282019728792003956564819947
 generalize hi : pw z 57896044618658097711785492504343953926634992332820282019728792003956564819947 = iz at *
 have hinv := inv_c z hz
 rw [hi] at hinv
 repeat (first | (refine TL.isMove ?_; refine TL.pure rfl rfl ?_) | refine TL.loadC rfl yB rfl ?_ | refine TL.fieldA0 rfl rfl ?_ | refine TL.nil ?_ | refine thenQ_normal ?_ | refine T.seq ?_ | refine T.region ?_ | (refine TL.isStore ?_; (refine TL.storeWh rfl rfl yB (by exact rfl) (by exact rfl) (by exact rfl) ?_; intro w' hu hbk hsz)) | (refine TL.isAlloc ?_; (refine TL.alloc rfl rfl ?_; intro bk w' hg hbk hsz hsz')) | refine TL.nilCheck rfl rfl ?_ | (refine TL.isFn 16 ?_; refine TL.call rfl (hinv _) rfl ?_; rintro _ _ ⟨rfl, hgc⟩))
 apply T.any 13 [is _, is _, is _, is _, is _, is _, is _, is _, is _, is _, is _, is _, is _]; (· kernel_rfl); (· ((repeat' (first | exact allDo_end | refine allDo_cons ?_ ?_)); (iterate 13 (· ((refine does_mk0 rfl rfl rfl ?_); ( intro wq _ _ hgq; (repeat (refine need_cons rfl rfl ?_; intro vq hvq; try (obtain rfl := hvq))); (refine need_nil ?_)); (repeat (first | (refine TL.isMove ?_; refine TL.pure rfl rfl ?_) | (refine TL.isLoad ?_; first | refine TL.loadW rfl yB (by exact rfl) rfl ?_ | refine TL.loadC rfl yB rfl ?_) | refine TL.fieldA0 rfl rfl ?_ | refine TL.nil ?_ | (refine TL.isBuild ?_; refine build_pt rfl rfl ?_) | refine TL.nilCheck rfl rfl ?_ | (refine TL.isFn 21 ?_; refine TL.call rfl (mul_f _ _ (by assumption) (by assumption) _) rfl ?_; rintro _ _ ⟨rfl, hgc⟩))); exact one_end rfl yG rfl))))); (rintro _ _ _ hgr _ _; (repeat (refine need_cons rfl rfl ?_; intro vq hvq; try (obtain rfl := hvq))); (refine need_nil ?_))
 repeat (first | refine TL.nil ?_ | refine thenQ_normal ?_ | (refine TL.isStore ?_; (refine TL.storeWh rfl rfl yB (by exact rfl) (by exact rfl) (by exact rfl) ?_; intro w' hu hbk hsz)) | refine T.ret ?_)
 exact retC rfl (load_whole (by assumption) rfl) ⟨_, rfl, by show pt (fmul x iz, fmul y iz) = pt P; rw [p1, p2], yG⟩
end Go.Proofs.Ytmpjigghgedjbaa
namespace Go.Proofs.Ytmpjigghgedjbaa
open Go Go.RowKit Go.V Go.N
theorem byte_bit' (N t : Nat) : byteN N (t / 8) / 2 ^ (t % 8) % 2 = N / 2 ^ t % 2 := by
 have h : N / 2 ^ t = N / 256 ^ (t / 8) / 2 ^ (t % 8) := by
  rw [Nat.div_div_eq_div_mul, show (256 : Nat) = 2 ^ 8 from rfl, ← Nat.pow_mul, ← Nat.pow_add, Nat.div_add_mod]
 rw [h]
 unfold byteN
 generalize N / 256 ^ (t / 8) = M
 have hk : t % 8 < 8 := Nat.mod_lt _ (by decide)
 generalize t % 8 = k at hk ⊢
 have hk : k = 0 ∨ k = 1 ∨ k = 2 ∨ k = 3 ∨ k = 4 ∨ k = 5 ∨ k = 6 ∨ k = 7 := by omega
 rcases hk with rfl | rfl | rfl | rfl | rfl | rfl | rfl | rfl <;> omega
theorem bit_c' (a i : Nat) (hi : i < 256) (w : World) : Calls Try.prog 84 #[num a, .int .i64 (i : Int)] w (Ret fun v w' => v = .bool (decide (a / 2 ^ i % 2 = 1)) ∧ Grow w w') := by
 refine V.calls (args := [_, _]) Try.func84 rfl Try.ntmps84 rfl rfl ?_
 have hbb := byte_bit' a i
 have hlt : byteN a (i / 8) / 2 ^ (i % 8) < 256 := Nat.lt_of_le_of_lt (Nat.div_le_self _ _) (byteN_lt _ _)
 rcases Nat.mod_two_eq_zero_or_one (a / 2 ^ i) with hb | hb
 ·rw [hb] at hbb
  rw [decide_eq_false (show ¬ (a / 2 ^ i % 2 = 1) by omega)]
  repeat (first | refine TL.guard_run rfl rfl rfl ?_ | (refine TL.isMove ?_; refine TL.pure rfl rfl ?_) | (refine TL.isAsg ?_; refine TL.pure rfl rfl ?_) | (refine TL.isIndex ?_; refine TL.indexA1 rfl rfl (by omega) rfl ?_) | (refine TL.isAnd ?_; refine TL.andU rfl rfl rfl rfl (by omega) (by omega) rfl ?_) | refine TL.nil ?_ | refine thenQ_normal ?_ | refine T.seq ?_ | refine T.region ?_ | (refine TL.isShr ?_; refine TL.shrS rfl rfl (by (simp only [IntKind.bits]; omega)) rfl ?_) | (refine TL.isRem ?_; refine TL.remU rfl rfl (by omega) rfl ?_) | (refine TL.isQuo ?_; refine TL.quoN rfl rfl (by omega) (by omega) rfl ?_) | (refine TL.isBin ?_; first | refine TL.pureT rfl yD rfl ?_ | refine TL.pureF rfl yD rfl ?_) | (refine TL.isBox ?_; (refine TL.boxA rfl rfl ?_; intro bk w' hg hbk hsz hsz')) | refine T.ret ?_ | refine TL.pure rfl rfl ?_ | (refine TL.isLoad ?_; refine TL.load1 rfl (Blk.cell yB (numL_at (by omega))) rfl ?_))
  exact ret1 rfl ⟨_, rfl, rfl, yG⟩
 ·rw [hb] at hbb
  rw [decide_eq_true hb]
  repeat (first | refine TL.guard_run rfl rfl rfl ?_ | (refine TL.isMove ?_; refine TL.pure rfl rfl ?_) | (refine TL.isAsg ?_; refine TL.pure rfl rfl ?_) | (refine TL.isIndex ?_; refine TL.indexA1 rfl rfl (by omega) rfl ?_) | (refine TL.isAnd ?_; refine TL.andU rfl rfl rfl rfl (by omega) (by omega) rfl ?_) | refine TL.nil ?_ | refine thenQ_normal ?_ | refine T.seq ?_ | refine T.region ?_ | (refine TL.isShr ?_; refine TL.shrS rfl rfl (by (simp only [IntKind.bits]; omega)) rfl ?_) | (refine TL.isRem ?_; refine TL.remU rfl rfl (by omega) rfl ?_) | (refine TL.isQuo ?_; refine TL.quoN rfl rfl (by omega) (by omega) rfl ?_) | (refine TL.isBin ?_; refine TL.pureT rfl yD rfl ?_) | (refine TL.isBox ?_; (refine TL.boxA rfl rfl ?_; intro bk w' hg hbk hsz hsz')) | refine T.ret ?_ | refine TL.pure rfl rfl ?_ | (refine TL.isLoad ?_; refine TL.load1 rfl (Blk.cell yB (numL_at (by omega))) rfl ?_))
  exact ret1 rfl ⟨_, rfl, rfl, yG⟩
theorem swap4 {A B C D : Pt} (hA : Val A) (hB : Val B) (hC : Val C) (hD : Val D) : addP (addP A B) (addP C D) = addP (addP A C) (addP B D) := by
 rw [add_assoc' hA hB (add_val hC hD), ← add_assoc' hB hC hD, add_comm' hB hC, add_assoc' hC hB hD, ← add_assoc' hA hC (add_val hB hD)]
theorem half_step {P : Pt} (hP : Val P) (a k : Nat) : mulP (a / 2 ^ k) P = addP (addP (mulP (a / 2 ^ (k + 1)) P) (mulP (a / 2 ^ (k + 1)) P)) (mulP (a / 2 ^ k % 2) P) := by
 have e : a / 2 ^ k = a / 2 ^ (k + 1) + a / 2 ^ (k + 1) + a / 2 ^ k % 2 := by
  rw [Nat.pow_succ, ← Nat.div_div_eq_div_mul]; omega
 have := mul_add' hP (a / 2 ^ (k + 1) + a / 2 ^ (k + 1)) (a / 2 ^ k % 2)
 rw [← e, mul_add' hP] at this
 exact this
def lad (a b k : Nat) (P R : Pt) : Pt := addP (mulP (a / 2 ^ k) P) (mulP (b / 2 ^ k) R)
theorem lad_val {P R : Pt} (hP : Val P) (hR : Val R) (a b k : Nat) : Val (lad a b k P R) := add_val (mul_val hP _) (mul_val hR _)
theorem lad_step {P R : Pt} (hP : Val P) (hR : Val R) (a b k : Nat) : lad a b k P R = addP (addP (lad a b (k + 1) P R) (lad a b (k + 1) P R)) (addP (mulP (a / 2 ^ k % 2) P) (mulP (b / 2 ^ k % 2) R)) := by
 unfold lad
 rw [half_step hP a k, half_step hR b k]
 have hA := mul_val hP (a / 2 ^ (k + 1))
 have hB := mul_val hR (b / 2 ^ (k + 1))
 have hC := mul_val hP (a / 2 ^ k % 2)
 have hD := mul_val hR (b / 2 ^ k % 2)
 generalize mulP (a / 2 ^ (k + 1)) P = A at *
 generalize mulP (b / 2 ^ (k + 1)) R = B at *
 generalize mulP (a / 2 ^ k % 2) P = C at *
 generalize mulP (b / 2 ^ k % 2) R = D at *
 rw [swap4 (add_val hA hA) hC (add_val hB hB) hD, swap4 hA hA hB hB]
theorem lad_top {P R : Pt} (hP : Val P) (hR : Val R) {a b : Nat} (ha : a < 115792089237316195423570985008687907853269984665640564039457584007913129639936) (hb : b < 115792089237316195423570985008687907853269984665640564039457584007913129639936) : lad a b 256 P R = zeroP := by
 unfold lad
 rw [Nat.div_eq_of_lt (show a < 2 ^ 256 from ha), Nat.div_eq_of_lt (show b < 2 ^ 256 from hb)]
 exact add_zero' zero_val
theorem lad_0 (a b : Nat) (P R : Pt) : lad a b 0 P R = addP (mulP a P) (mulP b R) := by
 unfold lad; rw [Nat.pow_zero, Nat.div_one, Nat.div_one]
theorem lad_11 {P R : Pt} (hP : Val P) (hR : Val R) {a b k : Nat} (h1 : a / 2 ^ k % 2 = 1) (h2 : b / 2 ^ k % 2 = 1) : lad a b k P R = addP (addP (lad a b (k + 1) P R) (lad a b (k + 1) P R)) (addP P R) := by
 rw [lad_step hP hR, h1, h2, mul_one' hP, mul_one' hR]
theorem lad_10 {P R : Pt} (hP : Val P) (hR : Val R) {a b k : Nat} (h1 : a / 2 ^ k % 2 = 1) (h2 : ¬ b / 2 ^ k % 2 = 1) : lad a b k P R = addP (addP (lad a b (k + 1) P R) (lad a b (k + 1) P R)) P := by
 rw [lad_step hP hR, h1, show b / 2 ^ k % 2 = 0 by omega, mul_one' hP]
 show addP _ (addP P zeroP) = _
 rw [add_zero' hP]
theorem lad_01 {P R : Pt} (hP : Val P) (hR : Val R) {a b k : Nat} (h1 : ¬ a / 2 ^ k % 2 = 1) (h2 : b / 2 ^ k % 2 = 1) : lad a b k P R = addP (addP (lad a b (k + 1) P R) (lad a b (k + 1) P R)) R := by
 rw [lad_step hP hR, h2, show a / 2 ^ k % 2 = 0 by omega, mul_one' hR]
 show addP _ (addP zeroP R) = _
 rw [zero_add' hR]
theorem lad_00 {P R : Pt} (hP : Val P) (hR : Val R) {a b k : Nat} (h1 : ¬ a / 2 ^ k % 2 = 1) (h2 : ¬ b / 2 ^ k % 2 = 1) : lad a b k P R = addP (lad a b (k + 1) P R) (lad a b (k + 1) P R) := by
 rw [lad_step hP hR, show a / 2 ^ k % 2 = 0 by omega, show b / 2 ^ k % 2 = 0 by omega]
 show addP _ (addP zeroP zeroP) = _
 rw [add_zero' zero_val, add_zero' (add_val (lad_val hP hR _ _ _) (lad_val hP hR _ _ _))]
attribute [irreducible] lad
section
variable {n : Nat} {e : Env} {w : World} {Q : Post} {ops : Array Oper} {rest : List Oper} {d : Nat} {ty : TypeId} {pos : String} {aft : Array Edge}
theorem wd_cells0 : (Value.agg #[.int .u8 0, .int .u8 0, .int .u8 0, .int .u8 0, .int .u8 0, .int .u8 0, .int .u8 0, .int .u8 0, .int .u8 0, .int .u8 0, .int .u8 0, .int .u8 0, .int .u8 0, .int .u8 0, .int .u8 0, .int .u8 0, .int .u8 0, .int .u8 0, .int .u8 0, .int .u8 0, .int .u8 0, .int .u8 0, .int .u8 0, .int .u8 0, .int .u8 0, .int .u8 0, .int .u8 0, .int .u8 0, .int .u8 0, .int .u8 0, .int .u8 0, .int .u8 0, .int .u8 0, .int .u8 0, .int .u8 0, .int .u8 0, .int .u8 0, .int .u8 0, .int .u8 0, .int .u8 0, .int .u8 0, .int .u8 0, .int .u8 0, .int .u8 0, .int .u8 0, .int .u8 0, .int .u8 0, .int .u8 0, .int .u8 0, .int .u8 0, .int .u8 0, .int .u8 0, .int .u8 0, .int .u8 0, .int .u8 0, .int .u8 0, .int .u8 0, .int .u8 0, .int .u8 0, .int .u8 0, .int .u8 0, .int .u8 0, .int .u8 0, .int .u8 0, .int .u8 0, .int .u8 0, .int .u8 0, .int .u8 0, .int .u8 0, .int .u8 0, .int .u8 0, .int .u8 0, .int .u8 0, .int .u8 0, .int .u8 0, .int .u8 0, .int .u8 0, .int .u8 0, .int .u8 0, .int .u8 0, .int .u8 0, .int .u8 0, .int .u8 0, .int .u8 0, .int .u8 0, .int .u8 0, .int .u8 0, .int .u8 0, .int .u8 0, .int .u8 0, .int .u8 0, .int .u8 0, .int .u8 0, .int .u8 0, .int .u8 0, .int .u8 0, .int .u8 0, .int .u8 0, .int .u8 0, .int .u8 0, .int .u8 0, .int .u8 0, .int .u8 0, .int .u8 0, .int .u8 0, .int .u8 0, .int .u8 0, .int .u8 0, .int .u8 0, .int .u8 0, .int .u8 0, .int .u8 0, .int .u8 0, .int .u8 0, .int .u8 0, .int .u8 0, .int .u8 0, .int .u8 0, .int .u8 0, .int .u8 0, .int .u8 0, .int .u8 0, .int .u8 0, .int .u8 0, .int .u8 0, .int .u8 0, .int .u8 0, .int .u8 0]).cells.toList = wdL 0 0 0 0 := by kernel_rfl
theorem alloc_wd (hd : Nat.blt d n = true) (k : ∀ b w', Grow w w' → Blk w' b 80 (wdL 0 0 0 0) → w.heap.size = b → w'.heap.size = b + 1 → TL Try.prog n ops rest ((d, .pointer (some ⟨b, 0, none⟩)) :: e) w' Q) :
  TL Try.prog n ops (⟨some d, .alloc 80, ty, pos, aft, none⟩ :: rest) e w Q := TL.alloc wd_cells0 hd k
theorem alloc_pt (hd : Nat.blt d n = true) (k : ∀ b w', Grow w w' → Blk w' b 39 (ptL 0 0) → w.heap.size = b → w'.heap.size = b + 1 → TL Try.prog n ops rest ((d, .pointer (some ⟨b, 0, none⟩)) :: e) w' Q) :
  TL Try.prog n ops (⟨some d, .alloc 39, ty, pos, aft, none⟩ :: rest) e w Q := TL.alloc (show _ = ptL 0 0 by kernel_rfl) hd k
theorem eq_pair {t2 : TypeId} {x y : Operand} {a b c d' : Bool} (hx : val e x = some (.agg #[.bool a, .bool b])) (hy : val e y = some (.agg #[.bool c, .bool d'])) (hd : Nat.blt d n = true)
  (k : TL Try.prog n ops rest ((d, .bool ((a == c) && (b == d'))) :: e) w Q) : TL Try.prog n ops (⟨some d, .binOp .eql 86 x y t2, ty, pos, aft, none⟩ :: rest) e w Q :=
 TL.run (fun r hr => by
  have h1 : Try.prog.eqGuardType Try.prog.depth 86 = false := by kernel_rfl
  have h2 : (Op.equalIn 10000 86 (.agg #[.bool a, .bool b]) (.agg #[.bool c, .bool d'])).run Try.prog w = .ok ((a == c) && (b == d')) w := by
   cases a <;> cases b <;> cases c <;> cases d' <;> kernel_rfl
  have h3 : (eqGuard .eql 86 x y (.agg #[.bool a, .bool b]) (.agg #[.bool c, .bool d'])).run Try.prog w = .ok () w := by unfold eqGuard; simp [h1]
  simp only [execOp, hr.eval hx, hr.eval hy, Sem.run_bind, h3, Result.andThen_ok]
  simp [binOp, Op.equal, Op.maxDepth, h2]) hd k
end
def Big4 (x y z t : Nat) : Prop := x < 115792089237316195423570985008687907853269984665640564039457584007913129639936 ∧ y < 115792089237316195423570985008687907853269984665640564039457584007913129639936 ∧ z < 115792089237316195423570985008687907853269984665640564039457584007913129639936 ∧ t < 115792089237316195423570985008687907853269984665640564039457584007913129639936
def ctr : Nat → Value
 | 0 => .int .i64 (-1)
 | k + 1 => .int .i64 (k : Int)
theorem ctr_at (k : Nat) : some (Value.int .i64 ((k : Int) - 1)) = some (ctr k) := by
 cases k with
 | zero => rfl
 | succ k => exact congrArg (fun z => some (Value.int .i64 z)) (by omega)
def Wp (w : World) (b : Nat) (P : Pt) : Prop := ∃ x y z t, Big4 x y z t ∧ Ext x y z t P ∧ Blk w b 80 (wdL x y z t)
theorem wp_of {P : Pt} (hP : Val P) {w : World} {b : Nat} (h : Blk w b 80 (wdL P.1 P.2 1 (fmul P.1 P.2))) : Wp w b P :=
 ⟨_, _, _, _, ⟨Nat.lt_trans hP.1 (by decide), Nat.lt_trans hP.2.1 (by decide), by decide, fmul_big _ _⟩, ext_of P, h⟩
theorem wp_but {P : Pt} {w w' : World} {b c : Nat} (h : Wp w b P) (hn : b ≠ c) (hb : But c w w') : Wp w' b P :=
 let ⟨x, y, z, t, h1, h2, h3⟩ := h; ⟨x, y, z, t, h1, h2, blk_but hb h3 hn⟩
theorem wp_grow {P : Pt} {w w' : World} {b : Nat} (h : Wp w b P) (hg : Grow w w') : Wp w' b P :=
 let ⟨x, y, z, t, h1, h2, h3⟩ := h; ⟨x, y, z, t, h1, h2, yB⟩
structure M2 (a b : Nat) (P R S : Pt) (b4 b6 b8 b9 b10 b11 b12 : Nat) (w : World) : Prop where
 m4 : Blk w b4 23 (numL a)
 m6 : Blk w b6 23 (numL b)
 m8 : Blk w b8 39 (ptL 0 0)
 m9 : Blk w b9 23 (numL (fadd dN dN))
 m10 : Wp w b10 P
 m11 : Wp w b11 R
 m12 : Wp w b12 S
structure Ne7 (b4 b6 b8 b9 b10 b11 b12 b : Nat) : Prop where
 n4 : b4 ≠ b
 n6 : b6 ≠ b
 n8 : b8 ≠ b
 n9 : b9 ≠ b
 n10 : b10 ≠ b
 n11 : b11 ≠ b
 n12 : b12 ≠ b
theorem M2.but {a b : Nat} {P R S : Pt} {b4 b6 b8 b9 b10 b11 b12 c : Nat} {w w' : World} (h : M2 a b P R S b4 b6 b8 b9 b10 b11 b12 w) (hn : Ne7 b4 b6 b8 b9 b10 b11 b12 c) (hb : But c w w') : M2 a b P R S b4 b6 b8 b9 b10 b11 b12 w' :=
 ⟨blk_but hb h.m4 hn.n4, blk_but hb h.m6 hn.n6, blk_but hb h.m8 hn.n8, blk_but hb h.m9 hn.n9, wp_but h.m10 hn.n10 hb, wp_but h.m11 hn.n11 hb, wp_but h.m12 hn.n12 hb⟩
theorem M2.grow {a b : Nat} {P R S : Pt} {b4 b6 b8 b9 b10 b11 b12 : Nat} {w w' : World} (h : M2 a b P R S b4 b6 b8 b9 b10 b11 b12 w) (hg : Grow w w') : M2 a b P R S b4 b6 b8 b9 b10 b11 b12 w' :=
 ⟨Blk.grow hg h.m4, Blk.grow hg h.m6, Blk.grow hg h.m8, Blk.grow hg h.m9, wp_grow h.m10 hg, wp_grow h.m11 hg, wp_grow h.m12 hg⟩
theorem dbl_p (b : Nat) (P : Pt) (hP : Val P) (w : World) (h : Wp w b P) : Calls Try.prog 83 #[.pointer (some ⟨b, 0, none⟩)] w (Ret fun v w' => But b w w' ∧ Wp w' b (addP P P)) := by
 obtain ⟨x, y, z, t, ⟨h1, h2, h3, h4⟩, he, hm⟩ := h
 exact (wdouble_c b x y z t h1 h2 h3 h4 w hm).mono fun en w' ⟨v, e1, e2, e3⟩ => ⟨v, e1, e2, _, _, _, _, ⟨fmul_big _ _, fmul_big _ _, fmul_big _ _, fmul_big _ _⟩, ext_double hP he, e3⟩
theorem add_p (b c : Nat) (P R : Pt) (hP : Val P) (hR : Val R) (hne : c ≠ b) (w : World) (h : Wp w b P) (k : Wp w c R) : Calls Try.prog 81 #[.pointer (some ⟨b, 0, none⟩), .pointer (some ⟨c, 0, none⟩), num (fadd dN dN)] w (Ret fun v w' => But b w w' ∧ Wp w' b (addP P R)) := by
 obtain ⟨x, y, z, t, ⟨h1, h2, h3, h4⟩, he, hm⟩ := h
 obtain ⟨px, py, pz, pt, ⟨k1, k2, k3, k4⟩, ke, km⟩ := k
 exact (wadd_c b c x y z t px py pz pt (fadd dN dN) h1 h2 h3 h4 k1 k2 k3 k4 (fadd_big _ _) hne w hm km).mono fun en w' ⟨v, e1, e2, e3⟩ => ⟨v, e1, e2, _, _, _, _, ⟨fmul_big _ _, fmul_big _ _, fmul_big _ _, fmul_big _ _⟩, ext_add hP hR he ke tw_Z, e3⟩
theorem point_p (b : Nat) (P : Pt) (hP : Val P) (w : World) (h : Wp w b P) : Calls Try.prog 82 #[.pointer (some ⟨b, 0, none⟩)] w (Ret fun v w' => v = pt P ∧ Grow w w') := by
 obtain ⟨x, y, z, t, ⟨h1, h2, h3, h4⟩, he, hm⟩ := h
 exact point_c b x y z t P hP he h1 h2 h3 w hm
end Go.Proofs.Ytmpjigghgedjbaa
