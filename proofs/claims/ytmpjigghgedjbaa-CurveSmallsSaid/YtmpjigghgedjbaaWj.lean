import Derived.Test.YtmpjigghgedjbaaWh
import Derived.Test.YtmpjigghgedjbaaWi
import Derived.Test.YtmpjigghgedjbaaWg
set_option linter.unusedSimpArgs false
set_option linter.unusedVariables false
set_option linter.unusedSectionVars false
namespace Go.Proofs.Ytmpjigghgedjbaa
open Go Go.RowKit Go.V Go.N
set_option maxRecDepth 100000 in
instance : V.Zero Try.prog 80 (.agg #[.int .u8 0, .int .u8 0, .int .u8 0, .int .u8 0, .int .u8 0, .int .u8 0, .int .u8 0, .int .u8 0, .int .u8 0, .int .u8 0, .int .u8 0, .int .u8 0, .int .u8 0, .int .u8 0, .int .u8 0, .int .u8 0, .int .u8 0, .int .u8 0, .int .u8 0, .int .u8 0, .int .u8 0, .int .u8 0, .int .u8 0, .int .u8 0, .int .u8 0, .int .u8 0, .int .u8 0, .int .u8 0, .int .u8 0, .int .u8 0, .int .u8 0, .int .u8 0, .int .u8 0, .int .u8 0, .int .u8 0, .int .u8 0, .int .u8 0, .int .u8 0, .int .u8 0, .int .u8 0, .int .u8 0, .int .u8 0, .int .u8 0, .int .u8 0, .int .u8 0, .int .u8 0, .int .u8 0, .int .u8 0, .int .u8 0, .int .u8 0, .int .u8 0, .int .u8 0, .int .u8 0, .int .u8 0, .int .u8 0, .int .u8 0, .int .u8 0, .int .u8 0, .int .u8 0, .int .u8 0, .int .u8 0, .int .u8 0, .int .u8 0, .int .u8 0, .int .u8 0, .int .u8 0, .int .u8 0, .int .u8 0, .int .u8 0, .int .u8 0, .int .u8 0, .int .u8 0, .int .u8 0, .int .u8 0, .int .u8 0, .int .u8 0, .int .u8 0, .int .u8 0, .int .u8 0, .int .u8 0, .int .u8 0, .int .u8 0, .int .u8 0, .int .u8 0, .int .u8 0, .int .u8 0, .int .u8 0, .int .u8 0, .int .u8 0, .int .u8 0, .int .u8 0, .int .u8 0, .int .u8 0, .int .u8 0, .int .u8 0, .int .u8 0, .int .u8 0, .int .u8 0, .int .u8 0, .int .u8 0, .int .u8 0, .int .u8 0, .int .u8 0, .int .u8 0, .int .u8 0, .int .u8 0, .int .u8 0, .int .u8 0, .int .u8 0, .int .u8 0, .int .u8 0, .int .u8 0, .int .u8 0, .int .u8 0, .int .u8 0, .int .u8 0, .int .u8 0, .int .u8 0, .int .u8 0, .int .u8 0, .int .u8 0, .int .u8 0, .int .u8 0, .int .u8 0, .int .u8 0, .int .u8 0, .int .u8 0, .int .u8 0]) := ⟨by kernel_rfl⟩
def wdL (x y z t : Nat) : List Value := numL x ++ (numL y ++ (numL z ++ numL t))
abbrev wd (x y z t : Nat) : Value := .agg (wdL x y z t).toArray
theorem numL_one (N : Nat) : (numL N).all Value.oneCell' = true := rfl
instance (x y : Nat) : Cut (ptL x y) 0 32 (numL x) := ⟨rfl, rfl⟩
instance (x y : Nat) : Cut (ptL x y) 32 32 (numL y) := ⟨rfl, rfl⟩
instance (x y z t : Nat) : Cut (wdL x y z t) 0 32 (numL x) := ⟨rfl, rfl⟩
instance (x y z t : Nat) : Cut (wdL x y z t) 32 32 (numL y) := ⟨rfl, rfl⟩
instance (x y z t : Nat) : Cut (wdL x y z t) 64 32 (numL z) := ⟨rfl, rfl⟩
instance (x y z t : Nat) : Cut (wdL x y z t) 96 32 (numL t) := ⟨rfl, rfl⟩
theorem putAt_mid (pre old post vs : List Value) (h : vs.length = old.length) : putAt (pre ++ (old ++ post)) pre.length vs = pre ++ (vs ++ post) := by
  induction vs generalizing pre old with
  | nil =>
    have : old = [] := List.eq_nil_of_length_eq_zero (by simpa using h.symm)
    subst this; rfl
  | cons v vs ih =>
    cases old with
    | nil => simp at h
    | cons c cs =>
      simp only [putAt]
      rw [List.set_append_right _ _ (Nat.le_refl _), Nat.sub_self, List.cons_append, List.set_cons_zero]
      have := ih (pre ++ [v]) cs (by simpa using h)
      simpa using this
instance (x y z t v : Nat) : Put (wdL x y z t) 0 (numL v) (wdL v y z t) := ⟨putAt_mid [] (numL x) _ (numL v) rfl, by show 0 + 32 ≤ 128; decide, rfl⟩
instance (x y z t v : Nat) : Put (wdL x y z t) 32 (numL v) (wdL x v z t) := ⟨putAt_mid (numL x) (numL y) _ (numL v) rfl, by show 32 + 32 ≤ 128; decide, rfl⟩
instance (x y z t v : Nat) : Put (wdL x y z t) 64 (numL v) (wdL x y v t) := ⟨by
  have := putAt_mid (numL x ++ numL y) (numL z) (numL t) (numL v) rfl
  simpa [wdL, numL_l32] using this, by show 64 + 32 ≤ 128; decide, rfl⟩
instance (x y z t v : Nat) : Put (wdL x y z t) 96 (numL v) (wdL x y z v) := ⟨by
  have := putAt_mid (numL x ++ (numL y ++ numL z)) (numL t) [] (numL v) rfl
  simpa [wdL, numL_l32] using this, by show 96 + 32 ≤ 128; decide, rfl⟩
set_option maxRecDepth 100000 in
theorem wd_fill (x y z t : Nat) : fillV [(0, 32), (32, 32), (64, 32), (96, 32)] (Value.agg #[.int .u8 0, .int .u8 0, .int .u8 0, .int .u8 0, .int .u8 0, .int .u8 0, .int .u8 0, .int .u8 0, .int .u8 0, .int .u8 0, .int .u8 0, .int .u8 0, .int .u8 0, .int .u8 0, .int .u8 0, .int .u8 0, .int .u8 0, .int .u8 0, .int .u8 0, .int .u8 0, .int .u8 0, .int .u8 0, .int .u8 0, .int .u8 0, .int .u8 0, .int .u8 0, .int .u8 0, .int .u8 0, .int .u8 0, .int .u8 0, .int .u8 0, .int .u8 0, .int .u8 0, .int .u8 0, .int .u8 0, .int .u8 0, .int .u8 0, .int .u8 0, .int .u8 0, .int .u8 0, .int .u8 0, .int .u8 0, .int .u8 0, .int .u8 0, .int .u8 0, .int .u8 0, .int .u8 0, .int .u8 0, .int .u8 0, .int .u8 0, .int .u8 0, .int .u8 0, .int .u8 0, .int .u8 0, .int .u8 0, .int .u8 0, .int .u8 0, .int .u8 0, .int .u8 0, .int .u8 0, .int .u8 0, .int .u8 0, .int .u8 0, .int .u8 0, .int .u8 0, .int .u8 0, .int .u8 0, .int .u8 0, .int .u8 0, .int .u8 0, .int .u8 0, .int .u8 0, .int .u8 0, .int .u8 0, .int .u8 0, .int .u8 0, .int .u8 0, .int .u8 0, .int .u8 0, .int .u8 0, .int .u8 0, .int .u8 0, .int .u8 0, .int .u8 0, .int .u8 0, .int .u8 0, .int .u8 0, .int .u8 0, .int .u8 0, .int .u8 0, .int .u8 0, .int .u8 0, .int .u8 0, .int .u8 0, .int .u8 0, .int .u8 0, .int .u8 0, .int .u8 0, .int .u8 0, .int .u8 0, .int .u8 0, .int .u8 0, .int .u8 0, .int .u8 0, .int .u8 0, .int .u8 0, .int .u8 0, .int .u8 0, .int .u8 0, .int .u8 0, .int .u8 0, .int .u8 0, .int .u8 0, .int .u8 0, .int .u8 0, .int .u8 0, .int .u8 0, .int .u8 0, .int .u8 0, .int .u8 0, .int .u8 0, .int .u8 0, .int .u8 0, .int .u8 0, .int .u8 0, .int .u8 0, .int .u8 0, .int .u8 0]).cells.toList [(0, num x), (1, num y), (2, num z), (3, num t)] = some (wdL x y z t) := by kernel_rfl
set_option maxRecDepth 100000 in
theorem pt_fill (x y : Nat) : fillV [(0, 32), (32, 32)] (Value.agg #[.int .u8 0, .int .u8 0, .int .u8 0, .int .u8 0, .int .u8 0, .int .u8 0, .int .u8 0, .int .u8 0, .int .u8 0, .int .u8 0, .int .u8 0, .int .u8 0, .int .u8 0, .int .u8 0, .int .u8 0, .int .u8 0, .int .u8 0, .int .u8 0, .int .u8 0, .int .u8 0, .int .u8 0, .int .u8 0, .int .u8 0, .int .u8 0, .int .u8 0, .int .u8 0, .int .u8 0, .int .u8 0, .int .u8 0, .int .u8 0, .int .u8 0, .int .u8 0, .int .u8 0, .int .u8 0, .int .u8 0, .int .u8 0, .int .u8 0, .int .u8 0, .int .u8 0, .int .u8 0, .int .u8 0, .int .u8 0, .int .u8 0, .int .u8 0, .int .u8 0, .int .u8 0, .int .u8 0, .int .u8 0, .int .u8 0, .int .u8 0, .int .u8 0, .int .u8 0, .int .u8 0, .int .u8 0, .int .u8 0, .int .u8 0, .int .u8 0, .int .u8 0, .int .u8 0, .int .u8 0, .int .u8 0, .int .u8 0, .int .u8 0, .int .u8 0]).cells.toList [(0, num x), (1, num y)] = some (ptL x y) := by kernel_rfl
set_option maxRecDepth 100000 in
theorem pt_filly (y : Nat) : fillV [(0, 32), (32, 32)] (Value.agg #[.int .u8 0, .int .u8 0, .int .u8 0, .int .u8 0, .int .u8 0, .int .u8 0, .int .u8 0, .int .u8 0, .int .u8 0, .int .u8 0, .int .u8 0, .int .u8 0, .int .u8 0, .int .u8 0, .int .u8 0, .int .u8 0, .int .u8 0, .int .u8 0, .int .u8 0, .int .u8 0, .int .u8 0, .int .u8 0, .int .u8 0, .int .u8 0, .int .u8 0, .int .u8 0, .int .u8 0, .int .u8 0, .int .u8 0, .int .u8 0, .int .u8 0, .int .u8 0, .int .u8 0, .int .u8 0, .int .u8 0, .int .u8 0, .int .u8 0, .int .u8 0, .int .u8 0, .int .u8 0, .int .u8 0, .int .u8 0, .int .u8 0, .int .u8 0, .int .u8 0, .int .u8 0, .int .u8 0, .int .u8 0, .int .u8 0, .int .u8 0, .int .u8 0, .int .u8 0, .int .u8 0, .int .u8 0, .int .u8 0, .int .u8 0, .int .u8 0, .int .u8 0, .int .u8 0, .int .u8 0, .int .u8 0, .int .u8 0, .int .u8 0, .int .u8 0]).cells.toList [(1, num y)] = some (ptL 0 y) := by kernel_rfl
set_option maxRecDepth 100000 in
theorem pt_fillx (x : Nat) : fillV [(0, 32), (32, 32)] (Value.agg #[.int .u8 0, .int .u8 0, .int .u8 0, .int .u8 0, .int .u8 0, .int .u8 0, .int .u8 0, .int .u8 0, .int .u8 0, .int .u8 0, .int .u8 0, .int .u8 0, .int .u8 0, .int .u8 0, .int .u8 0, .int .u8 0, .int .u8 0, .int .u8 0, .int .u8 0, .int .u8 0, .int .u8 0, .int .u8 0, .int .u8 0, .int .u8 0, .int .u8 0, .int .u8 0, .int .u8 0, .int .u8 0, .int .u8 0, .int .u8 0, .int .u8 0, .int .u8 0, .int .u8 0, .int .u8 0, .int .u8 0, .int .u8 0, .int .u8 0, .int .u8 0, .int .u8 0, .int .u8 0, .int .u8 0, .int .u8 0, .int .u8 0, .int .u8 0, .int .u8 0, .int .u8 0, .int .u8 0, .int .u8 0, .int .u8 0, .int .u8 0, .int .u8 0, .int .u8 0, .int .u8 0, .int .u8 0, .int .u8 0, .int .u8 0, .int .u8 0, .int .u8 0, .int .u8 0, .int .u8 0, .int .u8 0, .int .u8 0, .int .u8 0, .int .u8 0]).cells.toList [(0, num x)] = some (ptL x 0) := by kernel_rfl
set_option maxRecDepth 100000 in
theorem pt_fill0 : fillV [(0, 32), (32, 32)] (Value.agg #[.int .u8 0, .int .u8 0, .int .u8 0, .int .u8 0, .int .u8 0, .int .u8 0, .int .u8 0, .int .u8 0, .int .u8 0, .int .u8 0, .int .u8 0, .int .u8 0, .int .u8 0, .int .u8 0, .int .u8 0, .int .u8 0, .int .u8 0, .int .u8 0, .int .u8 0, .int .u8 0, .int .u8 0, .int .u8 0, .int .u8 0, .int .u8 0, .int .u8 0, .int .u8 0, .int .u8 0, .int .u8 0, .int .u8 0, .int .u8 0, .int .u8 0, .int .u8 0, .int .u8 0, .int .u8 0, .int .u8 0, .int .u8 0, .int .u8 0, .int .u8 0, .int .u8 0, .int .u8 0, .int .u8 0, .int .u8 0, .int .u8 0, .int .u8 0, .int .u8 0, .int .u8 0, .int .u8 0, .int .u8 0, .int .u8 0, .int .u8 0, .int .u8 0, .int .u8 0, .int .u8 0, .int .u8 0, .int .u8 0, .int .u8 0, .int .u8 0, .int .u8 0, .int .u8 0, .int .u8 0, .int .u8 0, .int .u8 0, .int .u8 0, .int .u8 0]).cells.toList [] = some (ptL 0 0) := by kernel_rfl
section
variable {n : Nat} {e : Env} {w : World} {Q : Post} {ops : Array Oper} {rest : List Oper} {d : Nat} {ty : TypeId} {pos : String} {aft : Array Edge} {parts : List (Nat × Operand)}
theorem build_wd {x y z t : Nat} (hx : partsV (val e) parts = some [(0, num x), (1, num y), (2, num z), (3, num t)]) (hd : Nat.blt d n = true) (k : TL Try.prog n ops rest ((d, wd x y z t) :: e) w Q) : TL Try.prog n ops (⟨some d, .build 80 parts.toArray, ty, pos, aft, none⟩ :: rest) e w Q := TL.build hx (wd_fill x y z t) hd k
theorem build_pt {x y : Nat} (hx : partsV (val e) parts = some [(0, num x), (1, num y)]) (hd : Nat.blt d n = true) (k : TL Try.prog n ops rest ((d, pt (x, y)) :: e) w Q) : TL Try.prog n ops (⟨some d, .build 39 parts.toArray, ty, pos, aft, none⟩ :: rest) e w Q := TL.build hx (pt_fill x y) hd k
theorem build_ptx {x : Nat} (hx : partsV (val e) parts = some [(0, num x)]) (hd : Nat.blt d n = true) (k : TL Try.prog n ops rest ((d, pt (x, 0)) :: e) w Q) : TL Try.prog n ops (⟨some d, .build 39 parts.toArray, ty, pos, aft, none⟩ :: rest) e w Q := TL.build hx (pt_fillx x) hd k
theorem build_pty {y : Nat} (hx : partsV (val e) parts = some [(1, num y)]) (hd : Nat.blt d n = true) (k : TL Try.prog n ops rest ((d, pt (0, y)) :: e) w Q) : TL Try.prog n ops (⟨some d, .build 39 parts.toArray, ty, pos, aft, none⟩ :: rest) e w Q := TL.build hx (pt_filly y) hd k
theorem build_pt0 (hx : partsV (val e) parts = some []) (hd : Nat.blt d n = true) (k : TL Try.prog n ops rest ((d, pt (0, 0)) :: e) w Q) : TL Try.prog n ops (⟨some d, .build 39 parts.toArray, ty, pos, aft, none⟩ :: rest) e w Q := TL.build hx (pt_fill0) hd k
end
set_option maxRecDepth 20000 in
theorem d_c (w : World) : Calls Try.prog 54 #[] w (Ret fun v w' => v = num dN ∧ Grow w w') := by
  refine V.calls (args := []) Try.func54 rfl Try.ntmps54 rfl rfl ?_
  repeat (first | refine TL.nil ?_ | refine thenQ_normal ?_ | refine T.seq ?_ | refine T.region ?_ | (refine TL.isStore ?_; first | (refine TL.storeWh rfl rfl yB (by exact rfl) (by exact rfl) (by exact rfl) ?_; intro w' hu hbk hsz)) | (refine TL.isAlloc ?_; first | (refine TL.alloc rfl rfl ?_; intro bk w' hg hbk hsz hsz')) | (refine TL.isBuild ?_; first | refine TL.buildArr rfl rfl rfl ?_) | refine T.ret ?_)
  exact retC rfl (load_whole (by assumption) rfl) ⟨_, rfl, rfl, yG⟩
set_option maxRecDepth 20000 in
theorem zero_c (w : World) : Calls Try.prog 46 #[] w (Ret fun v w' => v = pt zeroP ∧ Grow w w') := by
  refine V.calls (args := []) Try.func46 rfl Try.ntmps46 rfl rfl ?_
  repeat (first | refine TL.nil ?_ | refine thenQ_normal ?_ | refine T.seq ?_ | refine T.region ?_ | (refine TL.isStore ?_; first | (refine TL.storeWh rfl rfl yB (by exact rfl) (by exact rfl) (by exact rfl) ?_; intro w' hu hbk hsz)) | (refine TL.isAlloc ?_; first | (refine TL.alloc rfl rfl ?_; intro bk w' hg hbk hsz hsz')) | (refine TL.isBuild ?_; first | refine build_pty rfl rfl ?_) | refine T.ret ?_ | (refine TL.isFn 18 ?_; refine TL.call rfl (of_c 1 (by decide) _) rfl ?_; rintro _ _ ⟨rfl, hgc⟩))
  exact retC rfl (load_whole (by assumption) rfl) ⟨_, rfl, rfl, yG⟩
set_option maxRecDepth 20000 in
theorem widen_c (P : Pt) (h1 : P.1 < 115792089237316195423570985008687907853269984665640564039457584007913129639936) (h2 : P.2 < 115792089237316195423570985008687907853269984665640564039457584007913129639936) (w : World) : Calls Try.prog 80 #[pt P] w (Ret fun v w' => v = wd P.1 P.2 1 (fmul P.1 P.2) ∧ Grow w w') := by
  refine V.calls (args := [_]) Try.func80 rfl Try.ntmps80 rfl rfl ?_
  repeat (first | refine TL.nil ?_ | refine thenQ_normal ?_ | refine T.seq ?_ | refine T.region ?_ | (refine TL.isBox ?_; first | (refine TL.boxA rfl rfl ?_; intro bk w' hg hbk hsz hsz')) | (refine TL.isAlloc ?_; first | (refine TL.alloc rfl rfl ?_; intro bk w' hg hbk hsz hsz')))
  apply T.any 11 [is _, is _, is _, is _, is _, is _, is _, is _, is _, is _, is _]; (· first | kernel_rfl); (· ((repeat' (first | exact allDo_end | refine allDo_cons ?_ ?_)); (iterate 11 (· ((first | refine does_mk0 rfl rfl rfl ?_); ( intro wq _ _ hgq; (repeat (refine need_cons rfl rfl ?_; intro vq hvq; try (obtain rfl := hvq))); (refine need_nil ?_)); (repeat (first | (refine TL.isLoad ?_; first | refine TL.loadC rfl yB rfl ?_) | (refine TL.isField ?_; first | refine TL.fieldA0 rfl rfl ?_) | refine TL.nil ?_ | (refine TL.isBuild ?_; first | refine build_wd rfl rfl ?_) | (refine TL.isFn 18 ?_; refine TL.call rfl (of_c 1 (by decide) _) rfl ?_; rintro _ _ ⟨rfl, hgc⟩) | (refine TL.isFn 21 ?_; refine TL.call rfl (mul_f P.1 P.2 h1 h2 _) rfl ?_; rintro _ _ ⟨rfl, hgc⟩))); first | exact one_end rfl yG rfl))))); (rintro _ _ _ hgr _ _; (repeat (refine need_cons rfl rfl ?_; intro vq hvq; try (obtain rfl := hvq))); (refine need_nil ?_))
  repeat (first | refine TL.nil ?_ | refine thenQ_normal ?_ | (refine TL.isStore ?_; first | (refine TL.storeWh rfl rfl yB (by exact rfl) (by exact rfl) (by exact rfl) ?_; intro w' hu hbk hsz)) | refine T.ret ?_)
  exact retC rfl (load_whole (by assumption) rfl) ⟨_, rfl, rfl, yG⟩
end Go.Proofs.Ytmpjigghgedjbaa
namespace Go.Proofs.Ytmpjigghgedjbaa
open Go Go.RowKit Go.V Go.N
set_option maxHeartbeats 4000000 in
set_option maxRecDepth 20000 in
theorem finish_c (b x y z t e f g h : Nat) (he : e < 115792089237316195423570985008687907853269984665640564039457584007913129639936) (hf : f < 115792089237316195423570985008687907853269984665640564039457584007913129639936) (hg : g < 115792089237316195423570985008687907853269984665640564039457584007913129639936) (hh : h < 115792089237316195423570985008687907853269984665640564039457584007913129639936) (w : World) (m : Blk w b 80 (wdL x y z t)) :
    Calls Try.prog 98 #[.pointer (some ⟨b, 0, none⟩), num e, num f, num g, num h] w (Ret fun v w' => But b w w' ∧ Blk w' b 80 (wdL (fmul e f) (fmul g h) (fmul f g) (fmul e h))) := by
  refine V.calls (args := [_, _, _, _, _]) Try.func98 rfl Try.ntmps98 rfl rfl ?_
  have hb0 := m.lt
  refine T.cutAt 2 (fun e' v => ∃ b6 b7 b8 b9, Sub [(0, .pointer (some ⟨b, 0, none⟩)), (6, .pointer (some ⟨b6, 0, none⟩)), (7, .pointer (some ⟨b7, 0, none⟩)), (8, .pointer (some ⟨b8, 0, none⟩)), (9, .pointer (some ⟨b9, 0, none⟩))] e' ∧ Blk v b6 23 (numL e) ∧ Blk v b7 23 (numL f) ∧ Blk v b8 23 (numL g) ∧ Blk v b9 23 (numL h) ∧ (b6 ≠ b ∧ b7 ≠ b ∧ b8 ≠ b ∧ b9 ≠ b) ∧ Blk v b 80 (wdL (fmul e f) (fmul g h) z t) ∧ But b w v) ?_ ?_
  rotate_left
  · repeat (first | refine TL.nil ?_ | refine T.region ?_ | (refine TL.isBox ?_; first | (refine TL.boxA rfl rfl ?_; intro bk w' hg hbk hsz hsz')) | refine uptoQ_normal ?_ | refine upto_seq ?_)
    rename_i b6 w6 g6 k6 z6 s6 b7 w7 g7 k7 z7 s7 b8 w8 g8 k8 z8 s8
    obtain ⟨b9, rfl⟩ : ∃ b9, b9 = bk := ⟨_, rfl⟩
    have m6 : Blk w' b6 23 (numL e) := by exact yB
    have m7 : Blk w' b7 23 (numL f) := by exact yB
    have m8 : Blk w' b8 23 (numL g) := by exact yB
    have m9 : Blk w' b9 23 (numL h) := by exact yB
    have m' : Blk w' b 80 (wdL x y z t) := by exact yB
    have := g6.2
    have := g7.2
    have := g8.2
    have hB : But b w w' := yW
    have n6 : b6 ≠ b := by omega
    have n7 : b7 ≠ b := by omega
    have n8 : b8 ≠ b := by omega
    have n9 : b9 ≠ b := by omega
    clear k6 k7 k8 hbk g6 g7 g8 hg z6 s6 z7 s7 z8 s8 hsz hsz' m hb0
    have hb0 := m'.lt
    have l6 := m6.lt
    have l7 := m7.lt
    have l8 := m8.lt
    have l9 := m9.lt
    apply T.anyF 8 1 3 11 (.pointer (some ⟨b, 0, none⟩)) [is _, is _, is _, is _, is _, is _, is _, is _] (by kernel_rfl) rfl rfl; (· ((repeat' (first | exact allDo_end | refine allDo_cons ?_ ?_)); (iterate 8 (· ((first | refine does_mk0 rfl rfl rfl ?_); ( intro wq _ _ hgq; (repeat (refine need_cons rfl rfl ?_; intro vq hvq; try (obtain rfl := hvq))); (refine need_nil ?_)); (repeat (first | (refine TL.isMove ?_; first | refine TL.pure rfl rfl ?_) | (refine TL.isLoad ?_; first | refine TL.loadW rfl yB (by exact rfl) rfl ?_) | refine TL.nil ?_ | (refine TL.isFn 21 ?_; refine TL.call rfl (mul_f _ _ (by assumption) (by assumption) _) rfl ?_; rintro _ _ ⟨rfl, hgc⟩))); exact one_end rfl yG rfl))))); (rintro _ _ _ hgr _ _; (repeat (refine need_cons rfl rfl ?_; intro vq hvq; try (obtain rfl := hvq))); (refine need_nil ?_); (refine ⟨by ((repeat (first | (refine TL.isMove ?_; first | refine TL.pure rfl rfl ?_) | refine TL.nil ?_)); exact ⟨rfl, rfl⟩), ?_, _, rfl, ?_⟩; (· ((repeat (first | (refine TL.isField ?_; first | refine TL.fieldA0 rfl rfl ?_) | refine TL.nil ?_ | (refine TL.isStore ?_; first | (refine TL.storeC rfl rfl yB rfl ?_; intro w' hu hbk hsz)) | (refine TL.isNilC ?_; first | refine TL.nilCheck rfl rfl ?_) | refine uptoQ_normal ?_ | refine upto_end ?_)); exact ⟨b6, b7, b8, b9, ⟨rfl, rfl, rfl, rfl, rfl, trivial⟩, yB, yB, yB, yB, ⟨n6, n7, n8, n9⟩, by assumption, yW⟩)); (· ((repeat (first | refine TL.nil ?_ | (refine TL.isNilC ?_; first | refine TL.nilCheck rfl rfl ?_))); ((refine ⟨by ((repeat (first | (refine TL.isMove ?_; first | refine TL.pure rfl rfl ?_) | refine TL.nil ?_)); exact ⟨rfl, rfl⟩), ?_, _, rfl, ?_⟩; (· ((repeat (first | (refine TL.isField ?_; first | refine TL.fieldA0 rfl rfl ?_) | refine TL.nil ?_ | (refine TL.isStore ?_; first | (refine TL.storeC rfl rfl yB rfl ?_; intro w' hu hbk hsz)) | (refine TL.isNilC ?_; first | refine TL.nilCheck rfl rfl ?_) | refine uptoQ_normal ?_ | refine upto_end ?_)); exact ⟨b6, b7, b8, b9, ⟨rfl, rfl, rfl, rfl, rfl, trivial⟩, yB, yB, yB, yB, ⟨n6, n7, n8, n9⟩, by assumption, yW⟩)); (· ((repeat (first | (refine TL.isField ?_; first | refine TL.fieldA0 rfl rfl ?_) | refine TL.nil ?_)); ((refine ⟨by ((repeat (first | (refine TL.isMove ?_; first | refine TL.pure rfl rfl ?_) | refine TL.nil ?_)); exact ⟨rfl, rfl⟩), ?_, _, rfl, ?_⟩; (· ((repeat (first | (refine TL.isField ?_; first | refine TL.fieldA0 rfl rfl ?_) | refine TL.nil ?_ | (refine TL.isStore ?_; first | (refine TL.storeC rfl rfl yB rfl ?_; intro w' hu hbk hsz)) | (refine TL.isNilC ?_; first | refine TL.nilCheck rfl rfl ?_) | refine uptoQ_normal ?_ | refine upto_end ?_)); exact ⟨b6, b7, b8, b9, ⟨rfl, rfl, rfl, rfl, rfl, trivial⟩, yB, yB, yB, yB, ⟨n6, n7, n8, n9⟩, by assumption, yW⟩)); (· ((repeat (first | refine TL.nil ?_ | (refine TL.isStore ?_; first | (refine TL.storeC rfl rfl yB rfl ?_; intro w' hu hbk hsz)))); ((refine ⟨by ((repeat (first | (refine TL.isMove ?_; first | refine TL.pure rfl rfl ?_) | refine TL.nil ?_)); exact ⟨rfl, rfl⟩), ?_⟩; (· ((repeat (first | (refine TL.isField ?_; first | refine TL.fieldA0 rfl rfl ?_) | refine TL.nil ?_ | (refine TL.isStore ?_; first | (refine TL.storeC rfl rfl yB rfl ?_; intro w' hu hbk hsz)) | (refine TL.isNilC ?_; first | refine TL.nilCheck rfl rfl ?_) | refine uptoQ_normal ?_ | refine upto_end ?_)); exact ⟨b6, b7, b8, b9, ⟨rfl, rfl, rfl, rfl, rfl, trivial⟩, yB, yB, yB, yB, ⟨n6, n7, n8, n9⟩, by assumption, yW⟩))))))))))))))))
  clear m hb0
  rintro e' w1 ⟨b6, b7, b8, b9, hsub, m6, m7, m8, m9, ⟨n6, n7, n8, n9⟩, m, hB⟩
  refine T.weaken (e' := [(0, _), (6, _), (7, _), (8, _), (9, _)]) ?_ hsub
  clear hsub
  have hb0 := m.lt
  have l6 := m6.lt
  have l7 := m7.lt
  have l8 := m8.lt
  have l9 := m9.lt
  apply T.anyF 8 1 3 23 (.pointer (some ⟨b, 0, none⟩)) [is _, is _, is _, is _, is _, is _, is _, is _] (by kernel_rfl) rfl rfl; (· ((repeat' (first | exact allDo_end | refine allDo_cons ?_ ?_)); (iterate 8 (· ((first | refine does_mk0 rfl rfl rfl ?_); ( intro wq _ _ hgq; (repeat (refine need_cons rfl rfl ?_; intro vq hvq; try (obtain rfl := hvq))); (refine need_nil ?_)); (repeat (first | (refine TL.isMove ?_; first | refine TL.pure rfl rfl ?_) | (refine TL.isLoad ?_; first | refine TL.loadW rfl yB (by exact rfl) rfl ?_) | refine TL.nil ?_ | (refine TL.isFn 21 ?_; refine TL.call rfl (mul_f _ _ (by assumption) (by assumption) _) rfl ?_; rintro _ _ ⟨rfl, hgc⟩))); exact one_end rfl yG rfl))))); (rintro _ _ _ hgr _ _; (repeat (refine need_cons rfl rfl ?_; intro vq hvq; try (obtain rfl := hvq))); (refine need_nil ?_); (refine ⟨by ((repeat (first | (refine TL.isMove ?_; first | refine TL.pure rfl rfl ?_) | refine TL.nil ?_)); exact ⟨rfl, rfl⟩), ?_, _, rfl, ?_⟩; (· ((repeat (first | (refine TL.isField ?_; first | refine TL.fieldA0 rfl rfl ?_) | refine TL.nil ?_ | (refine TL.isStore ?_; first | (refine TL.storeC rfl rfl yB rfl ?_; intro w' hu hbk hsz)) | (refine TL.isNilC ?_; first | refine TL.nilCheck rfl rfl ?_))); exact retQ_normal (vs := []) rfl rfl ⟨_, rfl, yW, by assumption⟩)); (· ((repeat (first | refine TL.nil ?_ | (refine TL.isNilC ?_; first | refine TL.nilCheck rfl rfl ?_))); ((refine ⟨by ((repeat (first | (refine TL.isMove ?_; first | refine TL.pure rfl rfl ?_) | refine TL.nil ?_)); exact ⟨rfl, rfl⟩), ?_, _, rfl, ?_⟩; (· ((repeat (first | (refine TL.isField ?_; first | refine TL.fieldA0 rfl rfl ?_) | refine TL.nil ?_ | (refine TL.isStore ?_; first | (refine TL.storeC rfl rfl yB rfl ?_; intro w' hu hbk hsz)) | (refine TL.isNilC ?_; first | refine TL.nilCheck rfl rfl ?_))); exact retQ_normal (vs := []) rfl rfl ⟨_, rfl, yW, by assumption⟩)); (· ((repeat (first | (refine TL.isField ?_; first | refine TL.fieldA0 rfl rfl ?_) | refine TL.nil ?_)); ((refine ⟨by ((repeat (first | (refine TL.isMove ?_; first | refine TL.pure rfl rfl ?_) | refine TL.nil ?_)); exact ⟨rfl, rfl⟩), ?_, _, rfl, ?_⟩; (· ((repeat (first | (refine TL.isField ?_; first | refine TL.fieldA0 rfl rfl ?_) | refine TL.nil ?_ | (refine TL.isStore ?_; first | (refine TL.storeC rfl rfl yB rfl ?_; intro w' hu hbk hsz)) | (refine TL.isNilC ?_; first | refine TL.nilCheck rfl rfl ?_))); exact retQ_normal (vs := []) rfl rfl ⟨_, rfl, yW, by assumption⟩)); (· ((repeat (first | refine TL.nil ?_ | (refine TL.isStore ?_; first | (refine TL.storeC rfl rfl yB rfl ?_; intro w' hu hbk hsz)))); ((refine ⟨by ((repeat (first | (refine TL.isMove ?_; first | refine TL.pure rfl rfl ?_) | refine TL.nil ?_)); exact ⟨rfl, rfl⟩), ?_⟩; (· ((repeat (first | (refine TL.isField ?_; first | refine TL.fieldA0 rfl rfl ?_) | refine TL.nil ?_ | (refine TL.isStore ?_; first | (refine TL.storeC rfl rfl yB rfl ?_; intro w' hu hbk hsz)) | (refine TL.isNilC ?_; first | refine TL.nilCheck rfl rfl ?_))); exact retQ_normal (vs := []) rfl rfl ⟨_, rfl, yW, by assumption⟩))))))))))))))))
set_option maxHeartbeats 8000000 in
set_option maxRecDepth 20000 in
theorem wadd_c (b c x y z t px py pz pt tw : Nat) (hx : x < 115792089237316195423570985008687907853269984665640564039457584007913129639936) (hy : y < 115792089237316195423570985008687907853269984665640564039457584007913129639936) (hz : z < 115792089237316195423570985008687907853269984665640564039457584007913129639936) (ht : t < 115792089237316195423570985008687907853269984665640564039457584007913129639936) (kx : px < 115792089237316195423570985008687907853269984665640564039457584007913129639936) (ky : py < 115792089237316195423570985008687907853269984665640564039457584007913129639936) (kz : pz < 115792089237316195423570985008687907853269984665640564039457584007913129639936) (kt : pt < 115792089237316195423570985008687907853269984665640564039457584007913129639936) (htw : tw < 115792089237316195423570985008687907853269984665640564039457584007913129639936) (hne : c ≠ b) (w : World)
    (m : Blk w b 80 (wdL x y z t)) (k : Blk w c 80 (wdL px py pz pt)) :
    Calls Try.prog 81 #[.pointer (some ⟨b, 0, none⟩), .pointer (some ⟨c, 0, none⟩), num tw] w (Ret fun v w' => But b w w' ∧
      Blk w' b 80 (wdL (fmul (fsub (xbE x y px py) (xaE x y px py)) (fsub (xdE z pz) (xcE t pt tw))) (fmul (fadd (xdE z pz) (xcE t pt tw)) (fadd (xbE x y px py) (xaE x y px py))) (fmul (fsub (xdE z pz) (xcE t pt tw)) (fadd (xdE z pz) (xcE t pt tw))) (fmul (fsub (xbE x y px py) (xaE x y px py)) (fadd (xbE x y px py) (xaE x y px py))))) := by
  refine V.calls (args := [_, _, _]) Try.func81 rfl Try.ntmps81 rfl rfl ?_
  have hb0 := m.lt
  have hc0 := k.lt
  repeat (first | refine TL.nil ?_ | refine thenQ_normal ?_ | refine T.seq ?_ | refine T.region ?_ | (refine TL.isBox ?_; first | (refine TL.boxA rfl rfl ?_; intro bk w' hg hbk hsz hsz')))
  apply T.any 20 [is _, is _, is _, is _, is _, is _, is _, is _, is _, is _, is _, is _, is _, is _, is _, is _, is _, is _, is _, newB 23 zeros]; (· first | kernel_rfl); (· ((repeat' (first | exact allDo_end | refine allDo_cons ?_ ?_)); (iterate 19 (· ((first | refine does_mk0 rfl rfl rfl ?_); ( intro wq _ _ hgq; (repeat (refine need_cons rfl rfl ?_; intro vq hvq; try (obtain rfl := hvq))); (refine need_nil ?_)); (repeat (first | (refine TL.isMove ?_; first | refine TL.pure rfl rfl ?_) | (refine TL.isLoad ?_; first | refine TL.loadC rfl yB rfl ?_) | (refine TL.isField ?_; first | refine TL.fieldA0 rfl rfl ?_) | refine TL.nil ?_ | (refine TL.isNilC ?_; first | refine TL.nilCheck rfl rfl ?_) | (refine TL.isFn 21 ?_; refine TL.call rfl (mul_f _ _ (by first | exact fsub_big _ _) (by first | exact fsub_big _ _) _) rfl ?_; rintro _ _ ⟨rfl, hgc⟩) | (refine TL.isFn 32 ?_; refine TL.call rfl (sub_f _ _ (by first | assumption) (by first | assumption) _) rfl ?_; rintro _ _ ⟨rfl, hgc⟩))); exact one_end rfl yG rfl))); ((first | refine does_mk0 rfl rfl rfl ?_); ( intro wq _ _ hgq; (repeat (refine need_cons rfl rfl ?_; intro vq hvq; try (obtain rfl := hvq))); (refine need_nil ?_)); (repeat (first | refine TL.nil ?_ | (refine TL.isAlloc ?_; first | (refine TL.alloc rfl rfl ?_; intro bk w' hg hbk hsz hsz')))); exact one_end rfl yG ⟨_, rfl, by omega, by omega, by assumption⟩))); (rintro _ _ _ hgr hspan _; (repeat (refine need_cons rfl rfl ?_; intro vq hvq; try (obtain rfl := hvq))); (refine need_nil ?_); obtain ⟨bn, rfl, hn1, hn2, hnb⟩ := hvq; have hsp := hspan 19 (by omega); replace hn1 := Nat.le_trans hsp.1 hn1; replace hn2 := Nat.lt_of_lt_of_le hn2 hsp.2.2; clear hspan hsp)
  obtain ⟨b5, rfl⟩ : ∃ q, q = bk := ⟨_, rfl⟩
  obtain ⟨b6, rfl⟩ : ∃ q, q = bn := ⟨_, rfl⟩
  have g5 : w.heap.size ≤ b5 := by omega
  have g6 : w.heap.size ≤ b6 := by omega
  have n56 : b6 ≠ b5 := by omega
  have n5b : b5 ≠ b := by omega
  have n5c : b5 ≠ c := by omega
  have n6b : b6 ≠ b := by omega
  have n6c : b6 ≠ c := by omega
  repeat (first | refine TL.nil ?_ | refine thenQ_normal ?_ | refine T.seq ?_ | (refine TL.isStore ?_; first | (refine TL.storeWh rfl rfl yB (by exact rfl) (by exact rfl) (by exact rfl) ?_; intro w' hu hbk hsz)))
  have m5 : Blk w' b5 23 (numL tw) := by exact yB
  have m6 : Blk w' b6 23 (numL (xaE x y px py)) := hbk
  have mb : Blk w' b 80 (wdL x y z t) := by exact yB
  have mc : Blk w' c 80 (wdL px py pz pt) := by exact yB
  have hG : Grow w w' := by exact yG
  refine T.weaken (e' := [(0, .pointer (some ⟨b, 0, none⟩)), (1, .pointer (some ⟨c, 0, none⟩)), (5, .pointer (some ⟨b5, 0, none⟩)), (6, .pointer (some ⟨b6, 0, none⟩))]) ?_ ⟨rfl, rfl, rfl, rfl, trivial⟩
  have l5 := m5.lt
  have l6 := m6.lt
  have lb := mb.lt
  have lc := mc.lt
  apply T.any 20 [is _, is _, is _, is _, is _, is _, is _, is _, is _, is _, is _, is _, is _, is _, is _, is _, is _, is _, is _, newB 23 zeros]; (· first | kernel_rfl); (· ((repeat' (first | exact allDo_end | refine allDo_cons ?_ ?_)); (iterate 19 (· ((first | refine does_mk0 rfl rfl rfl ?_); ( intro wq _ _ hgq; (repeat (refine need_cons rfl rfl ?_; intro vq hvq; try (obtain rfl := hvq))); (refine need_nil ?_)); (repeat (first | (refine TL.isMove ?_; first | refine TL.pure rfl rfl ?_) | (refine TL.isLoad ?_; first | refine TL.loadC rfl yB rfl ?_) | (refine TL.isField ?_; first | refine TL.fieldA0 rfl rfl ?_) | refine TL.nil ?_ | (refine TL.isNilC ?_; first | refine TL.nilCheck rfl rfl ?_) | (refine TL.isFn 21 ?_; refine TL.call rfl (mul_f _ _ (by first | exact fadd_big _ _) (by first | exact fadd_big _ _) _) rfl ?_; rintro _ _ ⟨rfl, hgc⟩) | (refine TL.isFn 30 ?_; refine TL.call rfl (add_f _ _ (by first | assumption) (by first | assumption) _) rfl ?_; rintro _ _ ⟨rfl, hgc⟩))); exact one_end rfl yG rfl))); ((first | refine does_mk0 rfl rfl rfl ?_); ( intro wq _ _ hgq; (repeat (refine need_cons rfl rfl ?_; intro vq hvq; try (obtain rfl := hvq))); (refine need_nil ?_)); (repeat (first | refine TL.nil ?_ | (refine TL.isAlloc ?_; first | (refine TL.alloc rfl rfl ?_; intro bk w' hg hbk hsz hsz')))); exact one_end rfl yG ⟨_, rfl, by omega, by omega, by assumption⟩))); (rintro _ _ _ hgr hspan _; (repeat (refine need_cons rfl rfl ?_; intro vq hvq; try (obtain rfl := hvq))); (refine need_nil ?_); obtain ⟨bn, rfl, hn1, hn2, hnb⟩ := hvq; have hsp := hspan 19 (by omega); replace hn1 := Nat.le_trans hsp.1 hn1; replace hn2 := Nat.lt_of_lt_of_le hn2 hsp.2.2; clear hspan hsp)
  obtain ⟨b7, rfl⟩ : ∃ q, q = bn := ⟨_, rfl⟩
  have g7 : w.heap.size ≤ b7 := by have := hG.2; omega
  have n75 : b7 ≠ b5 := by omega
  have n76 : b7 ≠ b6 := by omega
  have n7b : b7 ≠ b := by omega
  have n7c : b7 ≠ c := by omega
  repeat (first | refine TL.nil ?_ | refine thenQ_normal ?_ | refine T.seq ?_ | (refine TL.isStore ?_; first | (refine TL.storeWh rfl rfl yB (by exact rfl) (by exact rfl) (by exact rfl) ?_; intro w' hu hbk hsz)))
  have k5 : Blk w' b5 23 (numL tw) := by exact yB
  have k6 : Blk w' b6 23 (numL (xaE x y px py)) := by exact yB
  have k7 : Blk w' b7 23 (numL (xbE x y px py)) := hbk
  have kb : Blk w' b 80 (wdL x y z t) := by exact yB
  have kc : Blk w' c 80 (wdL px py pz pt) := by exact yB
  have kG : Grow w w' := by exact yG
  refine T.weaken (e' := [(0, .pointer (some ⟨b, 0, none⟩)), (1, .pointer (some ⟨c, 0, none⟩)), (5, .pointer (some ⟨b5, 0, none⟩)), (6, .pointer (some ⟨b6, 0, none⟩)), (7, .pointer (some ⟨b7, 0, none⟩))]) ?_ ⟨rfl, rfl, rfl, rfl, rfl, trivial⟩
  clear m5 m6 mb mc hG l5 l6 lb lc
  have l5 := k5.lt
  have l6 := k6.lt
  have l7 := k7.lt
  have lb := kb.lt
  have lc := kc.lt
  apply T.any 12 [is _, is _, is _, is _, is _, is _, is _, is _, is _, is _, is _, newB 23 zeros]; (· first | kernel_rfl); (· ((repeat' (first | exact allDo_end | refine allDo_cons ?_ ?_)); (iterate 11 (· ((first | refine does_mk0 rfl rfl rfl ?_); ( intro wq _ _ hgq; (repeat (refine need_cons rfl rfl ?_; intro vq hvq; try (obtain rfl := hvq))); (refine need_nil ?_)); (repeat (first | (refine TL.isMove ?_; first | refine TL.pure rfl rfl ?_) | (refine TL.isLoad ?_; first | refine TL.loadW rfl yB (by exact rfl) rfl ?_ | refine TL.loadC rfl yB rfl ?_) | (refine TL.isField ?_; first | refine TL.fieldA0 rfl rfl ?_) | refine TL.nil ?_ | (refine TL.isNilC ?_; first | refine TL.nilCheck rfl rfl ?_) | (refine TL.isFn 21 ?_; refine TL.call rfl (mul_f _ _ (by first | assumption | exact fmul_big _ _) (by first | assumption) _) rfl ?_; rintro _ _ ⟨rfl, hgc⟩))); exact one_end rfl yG rfl))); ((first | refine does_mk0 rfl rfl rfl ?_); ( intro wq _ _ hgq; (repeat (refine need_cons rfl rfl ?_; intro vq hvq; try (obtain rfl := hvq))); (refine need_nil ?_)); (repeat (first | refine TL.nil ?_ | (refine TL.isAlloc ?_; first | (refine TL.alloc rfl rfl ?_; intro bk w' hg hbk hsz hsz')))); exact one_end rfl yG ⟨_, rfl, by omega, by omega, by assumption⟩))); (rintro _ _ _ hgr hspan _; (repeat (refine need_cons rfl rfl ?_; intro vq hvq; try (obtain rfl := hvq))); (refine need_nil ?_); obtain ⟨bn, rfl, hn1, hn2, hnb⟩ := hvq; have hsp := hspan 11 (by omega); replace hn1 := Nat.le_trans hsp.1 hn1; replace hn2 := Nat.lt_of_lt_of_le hn2 hsp.2.2; clear hspan hsp)
  obtain ⟨b8, rfl⟩ : ∃ q, q = bn := ⟨_, rfl⟩
  have g8 : w.heap.size ≤ b8 := by have := kG.2; omega
  have n85 : b8 ≠ b5 := by omega
  have n86 : b8 ≠ b6 := by omega
  have n87 : b8 ≠ b7 := by omega
  have n8b : b8 ≠ b := by omega
  have n8c : b8 ≠ c := by omega
  repeat (first | refine TL.nil ?_ | refine thenQ_normal ?_ | refine T.seq ?_ | (refine TL.isStore ?_; first | (refine TL.storeWh rfl rfl yB (by exact rfl) (by exact rfl) (by exact rfl) ?_; intro w' hu hbk hsz)))
  have m6 : Blk w' b6 23 (numL (xaE x y px py)) := by exact yB
  have m7 : Blk w' b7 23 (numL (xbE x y px py)) := by exact yB
  have m8 : Blk w' b8 23 (numL (xcE t pt tw)) := hbk
  have mb : Blk w' b 80 (wdL x y z t) := by exact yB
  have mc : Blk w' c 80 (wdL px py pz pt) := by exact yB
  have hG : Grow w w' := by exact yG
  refine T.weaken (e' := [(0, .pointer (some ⟨b, 0, none⟩)), (1, .pointer (some ⟨c, 0, none⟩)), (6, .pointer (some ⟨b6, 0, none⟩)), (7, .pointer (some ⟨b7, 0, none⟩)), (8, .pointer (some ⟨b8, 0, none⟩))]) ?_ ⟨rfl, rfl, rfl, rfl, rfl, trivial⟩
  clear k5 k6 k7 kb kc kG l5 l6 l7 lb lc
  have l6 := m6.lt
  have l7 := m7.lt
  have l8 := m8.lt
  have lb := mb.lt
  have lc := mc.lt
  apply T.any 10 [is _, is _, is _, is _, is _, is _, is _, is _, is _, newB 23 zeros]; (· first | kernel_rfl); (· ((repeat' (first | exact allDo_end | refine allDo_cons ?_ ?_)); (iterate 9 (· ((first | refine does_mk0 rfl rfl rfl ?_); ( intro wq _ _ hgq; (repeat (refine need_cons rfl rfl ?_; intro vq hvq; try (obtain rfl := hvq))); (refine need_nil ?_)); (repeat (first | (refine TL.isMove ?_; first | refine TL.pure rfl rfl ?_) | (refine TL.isLoad ?_; first | refine TL.loadC rfl yB rfl ?_) | (refine TL.isField ?_; first | refine TL.fieldA0 rfl rfl ?_) | refine TL.nil ?_ | (refine TL.isNilC ?_; first | refine TL.nilCheck rfl rfl ?_) | (refine TL.isFn 21 ?_; refine TL.call rfl (mul_f _ _ (by first | assumption) (by first | assumption) _) rfl ?_; rintro _ _ ⟨rfl, hgc⟩))); exact one_end rfl yG rfl))); ((first | refine does_mk0 rfl rfl rfl ?_); ( intro wq _ _ hgq; (repeat (refine need_cons rfl rfl ?_; intro vq hvq; try (obtain rfl := hvq))); (refine need_nil ?_)); (repeat (first | refine TL.nil ?_ | (refine TL.isAlloc ?_; first | (refine TL.alloc rfl rfl ?_; intro bk w' hg hbk hsz hsz')))); exact one_end rfl yG ⟨_, rfl, by omega, by omega, by assumption⟩))); (rintro _ _ _ hgr hspan _; (repeat (refine need_cons rfl rfl ?_; intro vq hvq; try (obtain rfl := hvq))); (refine need_nil ?_); obtain ⟨bn, rfl, hn1, hn2, hnb⟩ := hvq; have hsp := hspan 9 (by omega); replace hn1 := Nat.le_trans hsp.1 hn1; replace hn2 := Nat.lt_of_lt_of_le hn2 hsp.2.2; clear hspan hsp)
  obtain ⟨b9, rfl⟩ : ∃ q, q = bn := ⟨_, rfl⟩
  have g9 : w.heap.size ≤ b9 := by have := hG.2; omega
  have n96 : b9 ≠ b6 := by omega
  have n97 : b9 ≠ b7 := by omega
  have n98 : b9 ≠ b8 := by omega
  have n9b : b9 ≠ b := by omega
  repeat (first | (refine TL.isLoad ?_; first | refine TL.loadW rfl yB (by exact rfl) rfl ?_) | refine TL.nil ?_ | refine thenQ_normal ?_ | refine T.seq ?_ | refine T.region ?_ | (refine TL.isStore ?_; first | (refine TL.storeWh rfl rfl yB (by exact rfl) (by exact rfl) (by exact rfl) ?_; intro w' hu hbk hsz)) | (refine TL.isFn 30 ?_; refine TL.call rfl (add_f _ _ (by first | exact fmul_big _ _) (by first | exact fmul_big _ _) _) rfl ?_; rintro _ _ ⟨rfl, hgc⟩))
  have k6 : Blk w' b6 23 (numL (xaE x y px py)) := by exact yB
  have k7 : Blk w' b7 23 (numL (xbE x y px py)) := by exact yB
  have k8 : Blk w' b8 23 (numL (xcE t pt tw)) := by exact yB
  have k9 : Blk w' b9 23 (numL (xdE z pz)) := hbk
  have kb : Blk w' b 80 (wdL x y z t) := by exact yB
  have kG : Grow w w' := by exact yG
  refine T.weaken (e' := [(0, .pointer (some ⟨b, 0, none⟩)), (6, .pointer (some ⟨b6, 0, none⟩)), (7, .pointer (some ⟨b7, 0, none⟩)), (8, .pointer (some ⟨b8, 0, none⟩)), (9, .pointer (some ⟨b9, 0, none⟩))]) ?_ ⟨rfl, rfl, rfl, rfl, rfl, trivial⟩
  have e6 : xaE x y px py < 115792089237316195423570985008687907853269984665640564039457584007913129639936 := fmul_big _ _
  have e7 : xbE x y px py < 115792089237316195423570985008687907853269984665640564039457584007913129639936 := fmul_big _ _
  have e8 : xcE t pt tw < 115792089237316195423570985008687907853269984665640564039457584007913129639936 := fmul_big _ _
  have e9 : xdE z pz < 115792089237316195423570985008687907853269984665640564039457584007913129639936 := fadd_big _ _
  generalize xaE x y px py = A at *
  generalize xbE x y px py = B at *
  generalize xcE t pt tw = C at *
  generalize xdE z pz = D at *
  have l6 := k6.lt
  have l7 := k7.lt
  have l8 := k8.lt
  have l9 := k9.lt
  have lb := kb.lt
  apply T.any 13 [is _, is _, is _, is _, is _, is _, is _, is _, is _, is _, is _, is _, is _]; (· first | kernel_rfl); (· ((repeat' (first | exact allDo_end | refine allDo_cons ?_ ?_)); (iterate 13 (· ((first | refine does_mk0 rfl rfl rfl ?_); ( intro wq _ _ hgq; (repeat (refine need_cons rfl rfl ?_; intro vq hvq; try (obtain rfl := hvq))); (refine need_nil ?_)); (repeat (first | (refine TL.isMove ?_; first | refine TL.pure rfl rfl ?_) | (refine TL.isLoad ?_; first | refine TL.loadW rfl yB (by exact rfl) rfl ?_) | refine TL.nil ?_ | (refine TL.isFn 30 ?_; refine TL.call rfl (add_f _ _ (by first | assumption) (by first | assumption) _) rfl ?_; rintro _ _ ⟨rfl, hgc⟩) | (refine TL.isFn 32 ?_; refine TL.call rfl (sub_f _ _ (by first | assumption) (by first | assumption) _) rfl ?_; rintro _ _ ⟨rfl, hgc⟩))); first | exact one_end rfl yG rfl))))); (rintro _ _ _ hgr _ _; (repeat (refine need_cons rfl rfl ?_; intro vq hvq; try (obtain rfl := hvq))); (refine need_nil ?_))
  refine TL.call rfl (finish_c b x y z t _ _ _ _ (fsub_big _ _) (fsub_big _ _) (fadd_big _ _) (fadd_big _ _) _ yB) rfl ?_
  rintro _ w9 ⟨hB9, hm9⟩
  repeat (first | refine TL.nil ?_)
  exact retQ_normal (vs := []) rfl rfl ⟨_, rfl, but_but hB9 yW, hm9⟩
set_option maxHeartbeats 8000000 in
set_option maxRecDepth 20000 in
theorem wdouble_c (b x y z t : Nat) (hx : x < 115792089237316195423570985008687907853269984665640564039457584007913129639936) (hy : y < 115792089237316195423570985008687907853269984665640564039457584007913129639936) (hz : z < 115792089237316195423570985008687907853269984665640564039457584007913129639936) (ht : t < 115792089237316195423570985008687907853269984665640564039457584007913129639936) (w : World) (m : Blk w b 80 (wdL x y z t)) :
    Calls Try.prog 83 #[.pointer (some ⟨b, 0, none⟩)] w (Ret fun v w' => But b w w' ∧
      Blk w' b 80 (wdL (fmul (deE x y) (dfE x y z)) (fmul (dgE x y) (dhE x y)) (fmul (dfE x y z) (dgE x y)) (fmul (deE x y) (dhE x y)))) := by
  refine V.calls (args := [_]) Try.func83 rfl Try.ntmps83 rfl rfl ?_
  have hb0 := m.lt
  refine T.seq ?_
  (apply T.any 30 [is _, is _, is _, is _, is _, is _, is _, is _, is _, is _, is _, is _, is _, is _, is _, is _, is _, is _, is _, is _, is _, is _, is _, is _, is _, is _, is _, newB 23 zeros, newB 23 zeros, newB 23 zeros]; (· first | kernel_rfl); (· ((repeat' (first | exact allDo_end | refine allDo_cons ?_ ?_)); (iterate 27 (· ((first | refine does_mk0 rfl rfl rfl ?_); ( intro wq _ _ hgq; (repeat (refine need_cons rfl rfl ?_; intro vq hvq; try (obtain rfl := hvq))); (refine need_nil ?_)); (repeat (first | (refine TL.isMove ?_; first | refine TL.pure rfl rfl ?_) | (refine TL.isLoad ?_; first | refine TL.loadC rfl yB rfl ?_) | (refine TL.isField ?_; first | refine TL.fieldA0 rfl rfl ?_) | refine TL.nil ?_ | (refine TL.isNilC ?_; first | refine TL.nilCheck rfl rfl ?_) | (refine TL.isFn 21 ?_; refine TL.call rfl (mul_f _ _ (by first | assumption) (by first | assumption) _) rfl ?_; rintro _ _ ⟨rfl, hgc⟩))); exact one_end rfl yG rfl))); (iterate 3 (· (first | refine does_mk0 rfl rfl rfl ?_); ( intro wq _ _ hgq; (repeat (refine need_cons rfl rfl ?_; intro vq hvq; try (obtain rfl := hvq))); (refine need_nil ?_)); (repeat (first | refine TL.nil ?_ | (refine TL.isAlloc ?_; first | (refine TL.alloc rfl rfl ?_; intro bk w' hg hbk hsz hsz')))); exact one_end rfl yG ⟨_, rfl, by omega, by omega, by assumption⟩)))); (rintro _ _ _ hgr hspan hdj; (repeat (refine need_cons rfl rfl ?_; intro vq hvq; try (obtain rfl := hvq))); (refine need_nil ?_)); obtain ⟨bn3, rfl, hl3, hh3, hnb3⟩ := hvq; obtain ⟨bn2, rfl, hl2, hh2, hnb2⟩ := hvq; obtain ⟨bn1, rfl, hl1, hh1, hnb1⟩ := hvq; (try simp only [Nat.reduceAdd] at hl1 hh1 hl2 hh2 hl3 hh3); have hd21 : bn2 ≠ bn1 := (by have hz := hdj 28 27 (by omega) (by omega) (by omega); omega); have hd31 : bn3 ≠ bn1 := (by have hz := hdj 29 27 (by omega) (by omega) (by omega); omega); have hd32 : bn3 ≠ bn2 := (by have hz := hdj 29 28 (by omega) (by omega) (by omega); omega); have hsp := hspan 27 (by omega); replace hl1 := Nat.le_trans hsp.1 hl1; replace hh1 := Nat.lt_of_lt_of_le hh1 hsp.2.2; clear hsp; have hsp := hspan 28 (by omega); replace hl2 := Nat.le_trans hsp.1 hl2; replace hh2 := Nat.lt_of_lt_of_le hh2 hsp.2.2; clear hsp; have hsp := hspan 29 (by omega); replace hl3 := Nat.le_trans hsp.1 hl3; replace hh3 := Nat.lt_of_lt_of_le hh3 hsp.2.2; clear hsp; clear hspan hdj)
  obtain ⟨b2, rfl⟩ : ∃ q, q = bn1 := ⟨_, rfl⟩
  obtain ⟨b3, rfl⟩ : ∃ q, q = bn2 := ⟨_, rfl⟩
  obtain ⟨b4, rfl⟩ : ∃ q, q = bn3 := ⟨_, rfl⟩
  have g2 : w.heap.size ≤ b2 := by omega
  have g3 : w.heap.size ≤ b3 := by omega
  have g4 : w.heap.size ≤ b4 := by omega
  have n2b : b2 ≠ b := by omega
  have n3b : b3 ≠ b := by omega
  have n4b : b4 ≠ b := by omega
  repeat (first | refine TL.nil ?_ | refine thenQ_normal ?_ | refine T.seq ?_ | (refine TL.isStore ?_; first | (refine TL.storeWh rfl rfl yB (by exact rfl) (by exact rfl) (by exact rfl) ?_; intro w' hu hbk hsz)))
  have m2 : Blk w' b2 23 (numL (fmul x x)) := by exact yB
  have m3 : Blk w' b3 23 (numL (fmul y y)) := by exact yB
  have m4 : Blk w' b4 23 (numL (fmul z z)) := by exact yB
  have mb : Blk w' b 80 (wdL x y z t) := by exact yB
  have hG : Grow w w' := by exact yG
  refine T.weaken (e' := [(0, .pointer (some ⟨b, 0, none⟩)), (2, .pointer (some ⟨b2, 0, none⟩)), (3, .pointer (some ⟨b3, 0, none⟩)), (4, .pointer (some ⟨b4, 0, none⟩))]) ?_ ⟨rfl, rfl, rfl, rfl, trivial⟩
  have l2 := m2.lt
  have l3 := m3.lt
  have l4 := m4.lt
  have lb := mb.lt
  have n32 : b3 ≠ b2 := by omega
  have n42 : b4 ≠ b2 := by omega
  have n43 : b4 ≠ b3 := by omega
  clear m
  apply T.any 10 [is _, is _, is _, is _, is _, is _, is _, is _, is _, newB 23 zeros]; (· first | kernel_rfl); (· ((repeat' (first | exact allDo_end | refine allDo_cons ?_ ?_)); (iterate 9 (· ((first | refine does_mk0 rfl rfl rfl ?_); ( intro wq _ _ hgq; (repeat (refine need_cons rfl rfl ?_; intro vq hvq; try (obtain rfl := hvq))); (refine need_nil ?_)); (repeat (first | (refine TL.isMove ?_; first | refine TL.pure rfl rfl ?_) | (refine TL.isLoad ?_; first | refine TL.loadC rfl yB rfl ?_) | (refine TL.isField ?_; first | refine TL.fieldA0 rfl rfl ?_) | refine TL.nil ?_ | (refine TL.isNilC ?_; first | refine TL.nilCheck rfl rfl ?_) | (refine TL.isFn 30 ?_; refine TL.call rfl (add_f _ _ (by first | assumption) (by first | assumption) _) rfl ?_; rintro _ _ ⟨rfl, hgc⟩))); exact one_end rfl yG rfl))); ((first | refine does_mk0 rfl rfl rfl ?_); ( intro wq _ _ hgq; (repeat (refine need_cons rfl rfl ?_; intro vq hvq; try (obtain rfl := hvq))); (refine need_nil ?_)); (repeat (first | refine TL.nil ?_ | (refine TL.isAlloc ?_; first | (refine TL.alloc rfl rfl ?_; intro bk w' hg hbk hsz hsz')))); exact one_end rfl yG ⟨_, rfl, by omega, by omega, by assumption⟩))); (rintro _ _ _ hgr hspan _; (repeat (refine need_cons rfl rfl ?_; intro vq hvq; try (obtain rfl := hvq))); (refine need_nil ?_); obtain ⟨bn, rfl, hn1, hn2, hnb⟩ := hvq; have hsp := hspan 9 (by omega); replace hn1 := Nat.le_trans hsp.1 hn1; replace hn2 := Nat.lt_of_lt_of_le hn2 hsp.2.2; clear hspan hsp)
  obtain ⟨b5, rfl⟩ : ∃ q, q = bn := ⟨_, rfl⟩
  have g5 : w.heap.size ≤ b5 := by have := hG.2; omega
  have n5b : b5 ≠ b := by omega
  have n52 : b5 ≠ b2 := by omega
  have n53 : b5 ≠ b3 := by omega
  have n54 : b5 ≠ b4 := by omega
  repeat (first | (refine TL.isLoad ?_; first | refine TL.loadW rfl yB (by exact rfl) rfl ?_) | refine TL.nil ?_ | refine thenQ_normal ?_ | refine T.seq ?_ | refine T.region ?_ | (refine TL.isStore ?_; first | (refine TL.storeWh rfl rfl yB (by exact rfl) (by exact rfl) (by exact rfl) ?_; intro w' hu hbk hsz)) | (refine TL.isAlloc ?_; first | (refine TL.alloc rfl rfl ?_; intro bk w' hg hbk hsz hsz')) | (refine TL.isFn 30 ?_; refine TL.call rfl (add_f _ _ (by first | exact fmul_big _ _) (by first | exact fmul_big _ _) _) rfl ?_; rintro _ _ ⟨rfl, hgc⟩))
  have k2 : Blk w' b2 23 (numL (fmul x x)) := by exact yB
  have k3 : Blk w' b3 23 (numL (fmul y y)) := by exact yB
  have k4 : Blk w' b4 23 (numL (fmul z z)) := by exact yB
  have k5 : Blk w' b5 23 (numL (fadd x y)) := by exact yB
  have kb : Blk w' b 80 (wdL x y z t) := by exact yB
  have kG : Grow w w' := by exact yG
  obtain ⟨b6, rfl⟩ : ∃ q, q = bk := ⟨_, rfl⟩
  have k6 : Blk w' b6 23 (numL (dhE x y)) := hbk
  have g6 : w.heap.size ≤ b6 := by have := hG.2; omega
  have n6b : b6 ≠ b := by omega
  have n62 : b6 ≠ b2 := by omega
  have n63 : b6 ≠ b3 := by omega
  have n64 : b6 ≠ b4 := by omega
  have n65 : b6 ≠ b5 := by omega
  refine T.weaken (e' := [(0, .pointer (some ⟨b, 0, none⟩)), (2, .pointer (some ⟨b2, 0, none⟩)), (3, .pointer (some ⟨b3, 0, none⟩)), (4, .pointer (some ⟨b4, 0, none⟩)), (5, .pointer (some ⟨b5, 0, none⟩)), (6, .pointer (some ⟨b6, 0, none⟩))]) ?_ ⟨rfl, rfl, rfl, rfl, rfl, rfl, trivial⟩
  clear m2 m3 m4 mb hG l2 l3 l4 lb
  have l2 := k2.lt
  have l3 := k3.lt
  have l4 := k4.lt
  have l5 := k5.lt
  have l6 := k6.lt
  have lb := kb.lt
  have e6 : dhE x y < 115792089237316195423570985008687907853269984665640564039457584007913129639936 := fadd_big _ _
  apply T.any 6 [is _, is _, is _, is _, is _, newB 23 zeros]; (· first | kernel_rfl); (· ((repeat' (first | exact allDo_end | refine allDo_cons ?_ ?_)); (iterate 5 (· ((first | refine does_mk0 rfl rfl rfl ?_); ( intro wq _ _ hgq; (repeat (refine need_cons rfl rfl ?_; intro vq hvq; try (obtain rfl := hvq))); (refine need_nil ?_)); (repeat (first | (refine TL.isLoad ?_; first | refine TL.loadW rfl yB (by exact rfl) rfl ?_) | refine TL.nil ?_ | (refine TL.isFn 21 ?_; refine TL.call rfl (mul_f _ _ (by first | exact fadd_big _ _) (by first | exact fadd_big _ _) _) rfl ?_; rintro _ _ ⟨rfl, hgc⟩) | (refine TL.isFn 32 ?_; refine TL.call rfl (sub_f _ _ (by first | assumption) (by first | exact fmul_big _ _) _) rfl ?_; rintro _ _ ⟨rfl, hgc⟩))); exact one_end rfl yG rfl))); ((first | refine does_mk0 rfl rfl rfl ?_); ( intro wq _ _ hgq; (repeat (refine need_cons rfl rfl ?_; intro vq hvq; try (obtain rfl := hvq))); (refine need_nil ?_)); (repeat (first | refine TL.nil ?_ | (refine TL.isAlloc ?_; first | (refine TL.alloc rfl rfl ?_; intro bk w' hg hbk hsz hsz')))); exact one_end rfl yG ⟨_, rfl, by omega, by omega, by assumption⟩))); (rintro _ _ _ hgr hspan _; (repeat (refine need_cons rfl rfl ?_; intro vq hvq; try (obtain rfl := hvq))); (refine need_nil ?_); obtain ⟨bn, rfl, hn1, hn2, hnb⟩ := hvq; have hsp := hspan 5 (by omega); replace hn1 := Nat.le_trans hsp.1 hn1; replace hn2 := Nat.lt_of_lt_of_le hn2 hsp.2.2; clear hspan hsp)
  obtain ⟨b7, rfl⟩ : ∃ q, q = bn := ⟨_, rfl⟩
  have g7 : w.heap.size ≤ b7 := by have := kG.2; omega
  have n7b : b7 ≠ b := by omega
  have n72 : b7 ≠ b2 := by omega
  have n73 : b7 ≠ b3 := by omega
  have n74 : b7 ≠ b4 := by omega
  have n76 : b7 ≠ b6 := by omega
  repeat (first | (refine TL.isLoad ?_; first | refine TL.loadW rfl yB (by exact rfl) rfl ?_) | refine TL.nil ?_ | refine thenQ_normal ?_ | refine T.seq ?_ | refine T.region ?_ | (refine TL.isStore ?_; first | (refine TL.storeWh rfl rfl yB (by exact rfl) (by exact rfl) (by exact rfl) ?_; intro w' hu hbk hsz)) | (refine TL.isAlloc ?_; first | (refine TL.alloc rfl rfl ?_; intro bk w' hg hbk hsz hsz')) | (refine TL.isFn 32 ?_; refine TL.call rfl (sub_f _ _ (by first | exact fmul_big _ _) (by first | exact fmul_big _ _) _) rfl ?_; rintro _ _ ⟨rfl, hgc⟩))
  obtain ⟨b8, rfl⟩ : ∃ q, q = bk := ⟨_, rfl⟩
  have n8b : b8 ≠ b := by omega
  have n84 : b8 ≠ b4 := by omega
  have n86 : b8 ≠ b6 := by omega
  have n87 : b8 ≠ b7 := by omega
  have g8 : w.heap.size ≤ b8 := by have := kG.2; omega
  have m4 : Blk w' b4 23 (numL (fmul z z)) := by exact yB
  have m6 : Blk w' b6 23 (numL (dhE x y)) := by exact yB
  have m7 : Blk w' b7 23 (numL (deE x y)) := by exact yB
  have m8 : Blk w' b8 23 (numL (dgE x y)) := hbk
  have mb : Blk w' b 80 (wdL x y z t) := by exact yB
  have hG : Grow w w' := by exact yG
  refine T.weaken (e' := [(0, .pointer (some ⟨b, 0, none⟩)), (4, .pointer (some ⟨b4, 0, none⟩)), (6, .pointer (some ⟨b6, 0, none⟩)), (7, .pointer (some ⟨b7, 0, none⟩)), (8, .pointer (some ⟨b8, 0, none⟩))]) ?_ ⟨rfl, rfl, rfl, rfl, rfl, trivial⟩
  clear k2 k3 k4 k5 k6 kb kG l2 l3 l4 l5 l6 lb
  have e7 : deE x y < 115792089237316195423570985008687907853269984665640564039457584007913129639936 := fsub_big _ _
  have e8 : dgE x y < 115792089237316195423570985008687907853269984665640564039457584007913129639936 := fsub_big _ _
  have l4 := m4.lt
  have l6 := m6.lt
  have l7 := m7.lt
  have l8 := m8.lt
  have lb := mb.lt
  apply T.any 9 [is _, is _, is _, is _, is _, is _, is _, is _, is _]; (· first | kernel_rfl); (· ((repeat' (first | exact allDo_end | refine allDo_cons ?_ ?_)); (iterate 9 (· ((first | refine does_mk0 rfl rfl rfl ?_); ( intro wq _ _ hgq; (repeat (refine need_cons rfl rfl ?_; intro vq hvq; try (obtain rfl := hvq))); (refine need_nil ?_)); (repeat (first | (refine TL.isMove ?_; first | refine TL.pure rfl rfl ?_) | (refine TL.isLoad ?_; first | refine TL.loadW rfl yB (by exact rfl) rfl ?_) | refine TL.nil ?_ | (refine TL.isFn 30 ?_; refine TL.call rfl (add_f _ _ (by first | exact fmul_big _ _ | exact fadd_big _ _) (by first | assumption | exact fmul_big _ _) _) rfl ?_; rintro _ _ ⟨rfl, hgc⟩))); first | exact one_end rfl yG rfl))))); (rintro _ _ _ hgr _ _; (repeat (refine need_cons rfl rfl ?_; intro vq hvq; try (obtain rfl := hvq))); (refine need_nil ?_))
  refine TL.call rfl (finish_c b x y z t (deE x y) (dfE x y z) (dgE x y) (dhE x y) e7 (fadd_big _ _) e8 e6 _ yB) rfl ?_
  rintro _ w9 ⟨hB9, hm9⟩
  repeat (first | refine TL.nil ?_)
  exact retQ_normal (vs := []) rfl rfl ⟨_, rfl, but_but hB9 yW, hm9⟩
set_option maxHeartbeats 4000000 in
set_option maxRecDepth 20000 in
theorem point_c (b x y z t : Nat) (P : Pt) (hP : Val P) (h : Ext x y z t P) (hx : x < 115792089237316195423570985008687907853269984665640564039457584007913129639936) (hy : y < 115792089237316195423570985008687907853269984665640564039457584007913129639936) (hz : z < 115792089237316195423570985008687907853269984665640564039457584007913129639936) (w : World) (m : Blk w b 80 (wdL x y z t)) :
    Calls Try.prog 82 #[.pointer (some ⟨b, 0, none⟩)] w (Ret fun v w' => v = pt P ∧ Grow w w') := by
  refine V.calls (args := [_]) Try.func82 rfl Try.ntmps82 rfl rfl ?_
  have hb0 := m.lt
  obtain ⟨p1, p2⟩ := ext_point hP h
  have hpw := pw_big z 57896044618658097711785492504343953926634992332820282019728792003956564819947
  generalize hi : pw z 57896044618658097711785492504343953926634992332820282019728792003956564819947 = iz at *
  have hinv := inv_c z hz
  rw [hi] at hinv
  repeat (first | (refine TL.isMove ?_; first | refine TL.pure rfl rfl ?_) | (refine TL.isLoad ?_; first | refine TL.loadC rfl yB rfl ?_) | (refine TL.isField ?_; first | refine TL.fieldA0 rfl rfl ?_) | refine TL.nil ?_ | refine thenQ_normal ?_ | refine T.seq ?_ | refine T.region ?_ | (refine TL.isStore ?_; first | (refine TL.storeWh rfl rfl yB (by exact rfl) (by exact rfl) (by exact rfl) ?_; intro w' hu hbk hsz)) | (refine TL.isAlloc ?_; first | (refine TL.alloc rfl rfl ?_; intro bk w' hg hbk hsz hsz')) | (refine TL.isNilC ?_; first | refine TL.nilCheck rfl rfl ?_) | (refine TL.isFn 16 ?_; refine TL.call rfl (hinv _) rfl ?_; rintro _ _ ⟨rfl, hgc⟩))
  apply T.any 13 [is _, is _, is _, is _, is _, is _, is _, is _, is _, is _, is _, is _, is _]; (· first | kernel_rfl); (· ((repeat' (first | exact allDo_end | refine allDo_cons ?_ ?_)); (iterate 13 (· ((first | refine does_mk0 rfl rfl rfl ?_); ( intro wq _ _ hgq; (repeat (refine need_cons rfl rfl ?_; intro vq hvq; try (obtain rfl := hvq))); (refine need_nil ?_)); (repeat (first | (refine TL.isMove ?_; first | refine TL.pure rfl rfl ?_) | (refine TL.isLoad ?_; first | refine TL.loadW rfl yB (by exact rfl) rfl ?_ | refine TL.loadC rfl yB rfl ?_) | (refine TL.isField ?_; first | refine TL.fieldA0 rfl rfl ?_) | refine TL.nil ?_ | (refine TL.isBuild ?_; first | refine build_pt rfl rfl ?_) | (refine TL.isNilC ?_; first | refine TL.nilCheck rfl rfl ?_) | (refine TL.isFn 21 ?_; refine TL.call rfl (mul_f _ _ (by assumption) (by assumption) _) rfl ?_; rintro _ _ ⟨rfl, hgc⟩))); first | exact one_end rfl yG rfl))))); (rintro _ _ _ hgr _ _; (repeat (refine need_cons rfl rfl ?_; intro vq hvq; try (obtain rfl := hvq))); (refine need_nil ?_))
  repeat (first | refine TL.nil ?_ | refine thenQ_normal ?_ | (refine TL.isStore ?_; first | (refine TL.storeWh rfl rfl yB (by exact rfl) (by exact rfl) (by exact rfl) ?_; intro w' hu hbk hsz)) | refine T.ret ?_)
  exact retC rfl (load_whole (by assumption) rfl) ⟨_, rfl, by show pt (fmul x iz, fmul y iz) = pt P; rw [p1, p2], yG⟩
end Go.Proofs.Ytmpjigghgedjbaa
namespace Go.Proofs.Ytmpjigghgedjbaa
open Go Go.RowKit Go.V Go.N
theorem byte_bit' (N t : Nat) : byteN N (t / 8) / 2 ^ (t % 8) % 2 = N / 2 ^ t % 2 := by
  have h : N / 2 ^ t = N / 256 ^ (t / 8) / 2 ^ (t % 8) := by
    rw [Nat.div_div_eq_div_mul, show (256 : Nat) = 2 ^ 8 from rfl, ← Nat.pow_mul, ← Nat.pow_add, Nat.div_add_mod]
  rw [h]
  unfold byteN
  generalize N / 256 ^ (t / 8) = M
  have hk : t % 8 < 8 := Nat.mod_lt _ (by decide)
  generalize t % 8 = k at hk ⊢
  have hk : k = 0 ∨ k = 1 ∨ k = 2 ∨ k = 3 ∨ k = 4 ∨ k = 5 ∨ k = 6 ∨ k = 7 := by omega
  rcases hk with rfl | rfl | rfl | rfl | rfl | rfl | rfl | rfl <;> omega
set_option maxHeartbeats 4000000 in
set_option maxRecDepth 20000 in
theorem bit_c' (a i : Nat) (hi : i < 256) (w : World) : Calls Try.prog 84 #[num a, .int .i64 (i : Int)] w (Ret fun v w' => v = .bool (decide (a / 2 ^ i % 2 = 1)) ∧ Grow w w') := by
  refine V.calls (args := [_, _]) Try.func84 rfl Try.ntmps84 rfl rfl ?_
  have hbb := byte_bit' a i
  have hlt : byteN a (i / 8) / 2 ^ (i % 8) < 256 := Nat.lt_of_le_of_lt (Nat.div_le_self _ _) (byteN_lt _ _)
  rcases Nat.mod_two_eq_zero_or_one (a / 2 ^ i) with hb | hb
  · rw [hb] at hbb
    rw [decide_eq_false (show ¬ (a / 2 ^ i % 2 = 1) by omega)]
    repeat (first | (refine TL.isGuard ?_; first | refine TL.guard_run rfl rfl rfl ?_) | (refine TL.isMove ?_; first | refine TL.pure rfl rfl ?_) | (refine TL.isAsg ?_; first | refine TL.pure rfl rfl ?_) | (refine TL.isIndex ?_; first | refine TL.indexA1 rfl rfl (by first | omega) rfl ?_) | (refine TL.isAnd ?_; first | refine TL.andU rfl rfl rfl rfl (by omega) (by omega) rfl ?_) | refine TL.nil ?_ | refine thenQ_normal ?_ | refine T.seq ?_ | refine T.region ?_ | (refine TL.isShr ?_; first | refine TL.shrS rfl rfl (by first | (simp only [IntKind.bits]; omega)) rfl ?_) | (refine TL.isRem ?_; first | refine TL.remU rfl rfl (by omega) rfl ?_) | (refine TL.isQuo ?_; first | refine TL.quoN rfl rfl (by omega) (by first | omega) rfl ?_) | (refine TL.isBin ?_; first | refine TL.pureT rfl yD rfl ?_ | refine TL.pureF rfl yD rfl ?_) | (refine TL.isBox ?_; first | (refine TL.boxA rfl rfl ?_; intro bk w' hg hbk hsz hsz')) | refine T.ret ?_ | refine TL.pure rfl rfl ?_ | (refine TL.isLoad ?_; refine TL.load1 rfl (Blk.cell yB (numL_at (by omega))) rfl ?_))
    exact ret1 rfl ⟨_, rfl, rfl, yG⟩
  · rw [hb] at hbb
    rw [decide_eq_true hb]
    repeat (first | (refine TL.isGuard ?_; first | refine TL.guard_run rfl rfl rfl ?_) | (refine TL.isMove ?_; first | refine TL.pure rfl rfl ?_) | (refine TL.isAsg ?_; first | refine TL.pure rfl rfl ?_) | (refine TL.isIndex ?_; first | refine TL.indexA1 rfl rfl (by first | omega) rfl ?_) | (refine TL.isAnd ?_; first | refine TL.andU rfl rfl rfl rfl (by omega) (by omega) rfl ?_) | refine TL.nil ?_ | refine thenQ_normal ?_ | refine T.seq ?_ | refine T.region ?_ | (refine TL.isShr ?_; first | refine TL.shrS rfl rfl (by first | (simp only [IntKind.bits]; omega)) rfl ?_) | (refine TL.isRem ?_; first | refine TL.remU rfl rfl (by omega) rfl ?_) | (refine TL.isQuo ?_; first | refine TL.quoN rfl rfl (by omega) (by first | omega) rfl ?_) | (refine TL.isBin ?_; first | refine TL.pureT rfl yD rfl ?_) | (refine TL.isBox ?_; first | (refine TL.boxA rfl rfl ?_; intro bk w' hg hbk hsz hsz')) | refine T.ret ?_ | refine TL.pure rfl rfl ?_ | (refine TL.isLoad ?_; refine TL.load1 rfl (Blk.cell yB (numL_at (by omega))) rfl ?_))
    exact ret1 rfl ⟨_, rfl, rfl, yG⟩
theorem swap4 {A B C D : Pt} (hA : Val A) (hB : Val B) (hC : Val C) (hD : Val D) : addP (addP A B) (addP C D) = addP (addP A C) (addP B D) := by
  rw [add_assoc' hA hB (add_val hC hD), ← add_assoc' hB hC hD, add_comm' hB hC, add_assoc' hC hB hD, ← add_assoc' hA hC (add_val hB hD)]
theorem half_step {P : Pt} (hP : Val P) (a k : Nat) : mulP (a / 2 ^ k) P = addP (addP (mulP (a / 2 ^ (k + 1)) P) (mulP (a / 2 ^ (k + 1)) P)) (mulP (a / 2 ^ k % 2) P) := by
  have e : a / 2 ^ k = a / 2 ^ (k + 1) + a / 2 ^ (k + 1) + a / 2 ^ k % 2 := by
    rw [Nat.pow_succ, ← Nat.div_div_eq_div_mul]; omega
  have := mul_add' hP (a / 2 ^ (k + 1) + a / 2 ^ (k + 1)) (a / 2 ^ k % 2)
  rw [← e, mul_add' hP] at this
  exact this
def lad (a b k : Nat) (P R : Pt) : Pt := addP (mulP (a / 2 ^ k) P) (mulP (b / 2 ^ k) R)
theorem lad_val {P R : Pt} (hP : Val P) (hR : Val R) (a b k : Nat) : Val (lad a b k P R) := add_val (mul_val hP _) (mul_val hR _)
theorem lad_step {P R : Pt} (hP : Val P) (hR : Val R) (a b k : Nat) : lad a b k P R = addP (addP (lad a b (k + 1) P R) (lad a b (k + 1) P R)) (addP (mulP (a / 2 ^ k % 2) P) (mulP (b / 2 ^ k % 2) R)) := by
  unfold lad
  rw [half_step hP a k, half_step hR b k]
  have hA := mul_val hP (a / 2 ^ (k + 1))
  have hB := mul_val hR (b / 2 ^ (k + 1))
  have hC := mul_val hP (a / 2 ^ k % 2)
  have hD := mul_val hR (b / 2 ^ k % 2)
  generalize mulP (a / 2 ^ (k + 1)) P = A at *
  generalize mulP (b / 2 ^ (k + 1)) R = B at *
  generalize mulP (a / 2 ^ k % 2) P = C at *
  generalize mulP (b / 2 ^ k % 2) R = D at *
  rw [swap4 (add_val hA hA) hC (add_val hB hB) hD, swap4 hA hA hB hB]
theorem lad_top {P R : Pt} (hP : Val P) (hR : Val R) {a b : Nat} (ha : a < 115792089237316195423570985008687907853269984665640564039457584007913129639936) (hb : b < 115792089237316195423570985008687907853269984665640564039457584007913129639936) : lad a b 256 P R = zeroP := by
  unfold lad
  rw [Nat.div_eq_of_lt (show a < 2 ^ 256 from ha), Nat.div_eq_of_lt (show b < 2 ^ 256 from hb)]
  exact add_zero' zero_val
theorem lad_0 (a b : Nat) (P R : Pt) : lad a b 0 P R = addP (mulP a P) (mulP b R) := by
  unfold lad; rw [Nat.pow_zero, Nat.div_one, Nat.div_one]
theorem lad_11 {P R : Pt} (hP : Val P) (hR : Val R) {a b k : Nat} (h1 : a / 2 ^ k % 2 = 1) (h2 : b / 2 ^ k % 2 = 1) : lad a b k P R = addP (addP (lad a b (k + 1) P R) (lad a b (k + 1) P R)) (addP P R) := by
  rw [lad_step hP hR, h1, h2, mul_one' hP, mul_one' hR]
theorem lad_10 {P R : Pt} (hP : Val P) (hR : Val R) {a b k : Nat} (h1 : a / 2 ^ k % 2 = 1) (h2 : ¬ b / 2 ^ k % 2 = 1) : lad a b k P R = addP (addP (lad a b (k + 1) P R) (lad a b (k + 1) P R)) P := by
  rw [lad_step hP hR, h1, show b / 2 ^ k % 2 = 0 by omega, mul_one' hP]
  show addP _ (addP P zeroP) = _
  rw [add_zero' hP]
theorem lad_01 {P R : Pt} (hP : Val P) (hR : Val R) {a b k : Nat} (h1 : ¬ a / 2 ^ k % 2 = 1) (h2 : b / 2 ^ k % 2 = 1) : lad a b k P R = addP (addP (lad a b (k + 1) P R) (lad a b (k + 1) P R)) R := by
  rw [lad_step hP hR, h2, show a / 2 ^ k % 2 = 0 by omega, mul_one' hR]
  show addP _ (addP zeroP R) = _
  rw [zero_add' hR]
theorem lad_00 {P R : Pt} (hP : Val P) (hR : Val R) {a b k : Nat} (h1 : ¬ a / 2 ^ k % 2 = 1) (h2 : ¬ b / 2 ^ k % 2 = 1) : lad a b k P R = addP (lad a b (k + 1) P R) (lad a b (k + 1) P R) := by
  rw [lad_step hP hR, show a / 2 ^ k % 2 = 0 by omega, show b / 2 ^ k % 2 = 0 by omega]
  show addP _ (addP zeroP zeroP) = _
  rw [add_zero' zero_val, add_zero' (add_val (lad_val hP hR _ _ _) (lad_val hP hR _ _ _))]
attribute [irreducible] lad
section
variable {n : Nat} {e : Env} {w : World} {Q : Post} {ops : Array Oper} {rest : List Oper} {d : Nat} {ty : TypeId} {pos : String} {aft : Array Edge}
set_option maxRecDepth 100000 in
theorem wd_cells0 : (Value.agg #[.int .u8 0, .int .u8 0, .int .u8 0, .int .u8 0, .int .u8 0, .int .u8 0, .int .u8 0, .int .u8 0, .int .u8 0, .int .u8 0, .int .u8 0, .int .u8 0, .int .u8 0, .int .u8 0, .int .u8 0, .int .u8 0, .int .u8 0, .int .u8 0, .int .u8 0, .int .u8 0, .int .u8 0, .int .u8 0, .int .u8 0, .int .u8 0, .int .u8 0, .int .u8 0, .int .u8 0, .int .u8 0, .int .u8 0, .int .u8 0, .int .u8 0, .int .u8 0, .int .u8 0, .int .u8 0, .int .u8 0, .int .u8 0, .int .u8 0, .int .u8 0, .int .u8 0, .int .u8 0, .int .u8 0, .int .u8 0, .int .u8 0, .int .u8 0, .int .u8 0, .int .u8 0, .int .u8 0, .int .u8 0, .int .u8 0, .int .u8 0, .int .u8 0, .int .u8 0, .int .u8 0, .int .u8 0, .int .u8 0, .int .u8 0, .int .u8 0, .int .u8 0, .int .u8 0, .int .u8 0, .int .u8 0, .int .u8 0, .int .u8 0, .int .u8 0, .int .u8 0, .int .u8 0, .int .u8 0, .int .u8 0, .int .u8 0, .int .u8 0, .int .u8 0, .int .u8 0, .int .u8 0, .int .u8 0, .int .u8 0, .int .u8 0, .int .u8 0, .int .u8 0, .int .u8 0, .int .u8 0, .int .u8 0, .int .u8 0, .int .u8 0, .int .u8 0, .int .u8 0, .int .u8 0, .int .u8 0, .int .u8 0, .int .u8 0, .int .u8 0, .int .u8 0, .int .u8 0, .int .u8 0, .int .u8 0, .int .u8 0, .int .u8 0, .int .u8 0, .int .u8 0, .int .u8 0, .int .u8 0, .int .u8 0, .int .u8 0, .int .u8 0, .int .u8 0, .int .u8 0, .int .u8 0, .int .u8 0, .int .u8 0, .int .u8 0, .int .u8 0, .int .u8 0, .int .u8 0, .int .u8 0, .int .u8 0, .int .u8 0, .int .u8 0, .int .u8 0, .int .u8 0, .int .u8 0, .int .u8 0, .int .u8 0, .int .u8 0, .int .u8 0, .int .u8 0, .int .u8 0, .int .u8 0, .int .u8 0, .int .u8 0]).cells.toList = wdL 0 0 0 0 := by kernel_rfl
theorem alloc_wd (hd : Nat.blt d n = true) (k : ∀ b w', Grow w w' → Blk w' b 80 (wdL 0 0 0 0) → w.heap.size = b → w'.heap.size = b + 1 → TL Try.prog n ops rest ((d, .pointer (some ⟨b, 0, none⟩)) :: e) w' Q) :
    TL Try.prog n ops (⟨some d, .alloc 80, ty, pos, aft, none⟩ :: rest) e w Q := TL.alloc wd_cells0 hd k
set_option maxRecDepth 100000 in
theorem alloc_pt (hd : Nat.blt d n = true) (k : ∀ b w', Grow w w' → Blk w' b 39 (ptL 0 0) → w.heap.size = b → w'.heap.size = b + 1 → TL Try.prog n ops rest ((d, .pointer (some ⟨b, 0, none⟩)) :: e) w' Q) :
    TL Try.prog n ops (⟨some d, .alloc 39, ty, pos, aft, none⟩ :: rest) e w Q := TL.alloc (show _ = ptL 0 0 by kernel_rfl) hd k
theorem eq_pair {t2 : TypeId} {x y : Operand} {a b c d' : Bool} (hx : val e x = some (.agg #[.bool a, .bool b])) (hy : val e y = some (.agg #[.bool c, .bool d'])) (hd : Nat.blt d n = true)
    (k : TL Try.prog n ops rest ((d, .bool ((a == c) && (b == d'))) :: e) w Q) : TL Try.prog n ops (⟨some d, .binOp .eql 86 x y t2, ty, pos, aft, none⟩ :: rest) e w Q :=
  TL.run (fun r hr => by
    have h1 : Try.prog.eqGuardType Try.prog.depth 86 = false := by kernel_rfl
    have h2 : (Op.equalIn 10000 86 (.agg #[.bool a, .bool b]) (.agg #[.bool c, .bool d'])).run Try.prog w = .ok ((a == c) && (b == d')) w := by
      cases a <;> cases b <;> cases c <;> cases d' <;> kernel_rfl
    have h3 : (eqGuard .eql 86 x y (.agg #[.bool a, .bool b]) (.agg #[.bool c, .bool d'])).run Try.prog w = .ok () w := by unfold eqGuard; simp [h1]
    simp only [execOp, hr.eval hx, hr.eval hy, Sem.run_bind, h3, Result.andThen_ok]
    simp [binOp, Op.equal, Op.maxDepth, h2]) hd k
end
def Big4 (x y z t : Nat) : Prop := x < 115792089237316195423570985008687907853269984665640564039457584007913129639936 ∧ y < 115792089237316195423570985008687907853269984665640564039457584007913129639936 ∧ z < 115792089237316195423570985008687907853269984665640564039457584007913129639936 ∧ t < 115792089237316195423570985008687907853269984665640564039457584007913129639936
def ctr : Nat → Value
  | 0 => .int .i64 (-1)
  | k + 1 => .int .i64 (k : Int)
theorem ctr_at (k : Nat) : some (Value.int .i64 ((k : Int) - 1)) = some (ctr k) := by
  cases k with
  | zero => rfl
  | succ k => exact congrArg (fun z => some (Value.int .i64 z)) (by omega)
def Wp (w : World) (b : Nat) (P : Pt) : Prop := ∃ x y z t, Big4 x y z t ∧ Ext x y z t P ∧ Blk w b 80 (wdL x y z t)
theorem wp_of {P : Pt} (hP : Val P) {w : World} {b : Nat} (h : Blk w b 80 (wdL P.1 P.2 1 (fmul P.1 P.2))) : Wp w b P :=
  ⟨_, _, _, _, ⟨Nat.lt_trans hP.1 (by decide), Nat.lt_trans hP.2.1 (by decide), by decide, fmul_big _ _⟩, ext_of P, h⟩
theorem wp_but {P : Pt} {w w' : World} {b c : Nat} (h : Wp w b P) (hn : b ≠ c) (hb : But c w w') : Wp w' b P :=
  let ⟨x, y, z, t, h1, h2, h3⟩ := h; ⟨x, y, z, t, h1, h2, blk_but hb h3 hn⟩
theorem wp_grow {P : Pt} {w w' : World} {b : Nat} (h : Wp w b P) (hg : Grow w w') : Wp w' b P :=
  let ⟨x, y, z, t, h1, h2, h3⟩ := h; ⟨x, y, z, t, h1, h2, yB⟩
structure M2 (a b : Nat) (P R S : Pt) (b4 b6 b8 b9 b10 b11 b12 : Nat) (w : World) : Prop where
  m4 : Blk w b4 23 (numL a)
  m6 : Blk w b6 23 (numL b)
  m8 : Blk w b8 39 (ptL 0 0)
  m9 : Blk w b9 23 (numL (fadd dN dN))
  m10 : Wp w b10 P
  m11 : Wp w b11 R
  m12 : Wp w b12 S
structure Ne7 (b4 b6 b8 b9 b10 b11 b12 b : Nat) : Prop where
  n4 : b4 ≠ b
  n6 : b6 ≠ b
  n8 : b8 ≠ b
  n9 : b9 ≠ b
  n10 : b10 ≠ b
  n11 : b11 ≠ b
  n12 : b12 ≠ b
theorem M2.but {a b : Nat} {P R S : Pt} {b4 b6 b8 b9 b10 b11 b12 c : Nat} {w w' : World} (h : M2 a b P R S b4 b6 b8 b9 b10 b11 b12 w) (hn : Ne7 b4 b6 b8 b9 b10 b11 b12 c) (hb : But c w w') : M2 a b P R S b4 b6 b8 b9 b10 b11 b12 w' :=
  ⟨blk_but hb h.m4 hn.n4, blk_but hb h.m6 hn.n6, blk_but hb h.m8 hn.n8, blk_but hb h.m9 hn.n9, wp_but h.m10 hn.n10 hb, wp_but h.m11 hn.n11 hb, wp_but h.m12 hn.n12 hb⟩
theorem M2.grow {a b : Nat} {P R S : Pt} {b4 b6 b8 b9 b10 b11 b12 : Nat} {w w' : World} (h : M2 a b P R S b4 b6 b8 b9 b10 b11 b12 w) (hg : Grow w w') : M2 a b P R S b4 b6 b8 b9 b10 b11 b12 w' :=
  ⟨Blk.grow hg h.m4, Blk.grow hg h.m6, Blk.grow hg h.m8, Blk.grow hg h.m9, wp_grow h.m10 hg, wp_grow h.m11 hg, wp_grow h.m12 hg⟩
theorem dbl_p (b : Nat) (P : Pt) (hP : Val P) (w : World) (h : Wp w b P) : Calls Try.prog 83 #[.pointer (some ⟨b, 0, none⟩)] w (Ret fun v w' => But b w w' ∧ Wp w' b (addP P P)) := by
  obtain ⟨x, y, z, t, ⟨h1, h2, h3, h4⟩, he, hm⟩ := h
  exact (wdouble_c b x y z t h1 h2 h3 h4 w hm).mono fun en w' ⟨v, e1, e2, e3⟩ => ⟨v, e1, e2, _, _, _, _, ⟨fmul_big _ _, fmul_big _ _, fmul_big _ _, fmul_big _ _⟩, ext_double hP he, e3⟩
theorem add_p (b c : Nat) (P R : Pt) (hP : Val P) (hR : Val R) (hne : c ≠ b) (w : World) (h : Wp w b P) (k : Wp w c R) : Calls Try.prog 81 #[.pointer (some ⟨b, 0, none⟩), .pointer (some ⟨c, 0, none⟩), num (fadd dN dN)] w (Ret fun v w' => But b w w' ∧ Wp w' b (addP P R)) := by
  obtain ⟨x, y, z, t, ⟨h1, h2, h3, h4⟩, he, hm⟩ := h
  obtain ⟨px, py, pz, pt, ⟨k1, k2, k3, k4⟩, ke, km⟩ := k
  exact (wadd_c b c x y z t px py pz pt (fadd dN dN) h1 h2 h3 h4 k1 k2 k3 k4 (fadd_big _ _) hne w hm km).mono fun en w' ⟨v, e1, e2, e3⟩ => ⟨v, e1, e2, _, _, _, _, ⟨fmul_big _ _, fmul_big _ _, fmul_big _ _, fmul_big _ _⟩, ext_add hP hR he ke tw_Z, e3⟩
theorem point_p (b : Nat) (P : Pt) (hP : Val P) (w : World) (h : Wp w b P) : Calls Try.prog 82 #[.pointer (some ⟨b, 0, none⟩)] w (Ret fun v w' => v = pt P ∧ Grow w w') := by
  obtain ⟨x, y, z, t, ⟨h1, h2, h3, h4⟩, he, hm⟩ := h
  exact point_c b x y z t P hP he h1 h2 h3 w hm
end Go.Proofs.Ytmpjigghgedjbaa
namespace Go.Proofs.Ytmpjigghgedjbaa
open Go Go.RowKit Go.V Go.N
set_option maxHeartbeats 8000000 in
set_option maxRecDepth 100000 in
theorem mul2_y (a b : Nat) (P R : Pt) (ha : a < 115792089237316195423570985008687907853269984665640564039457584007913129639936) (hb : b < 115792089237316195423570985008687907853269984665640564039457584007913129639936) (hP : Val P) (hR : Val R) (w : World) :
    Calls Try.prog 48 #[num a, pt P, num b, pt R] w (Ret fun v w' => v = pt (addP (mulP a P) (mulP b R)) ∧ Grow w w') := by
  refine V.calls (args := [_, _, _, _]) Try.func48 rfl Try.ntmps48 rfl rfl ?_
  have hck : ∀ v, Calls Try.prog 43 #[pt P] v (Ret fun u v' => u = .int .i64 0 ∧ Grow v v') := check_y' P hP
  have hck2 : ∀ v, Calls Try.prog 43 #[pt R] v (Ret fun u v' => u = .int .i64 0 ∧ Grow v v') := check_y' R hR
  refine T.cutAt 3 (fun e v => ∃ b4 b5 b6 b7 b8 b9, Sub [(4, .pointer (some ⟨b4, 0, none⟩)), (5, .pointer (some ⟨b5, 0, none⟩)), (6, .pointer (some ⟨b6, 0, none⟩)), (7, .pointer (some ⟨b7, 0, none⟩)), (8, .pointer (some ⟨b8, 0, none⟩)), (9, .pointer (some ⟨b9, 0, none⟩))] e ∧ Blk v b4 23 (numL a) ∧ Blk v b5 39 (ptL P.1 P.2) ∧ Blk v b6 23 (numL b) ∧ Blk v b7 39 (ptL R.1 R.2) ∧ Blk v b8 39 (ptL 0 0) ∧ Blk v b9 23 (numL (fadd dN dN)) ∧ w.heap.size ≤ b8 ∧ Grow w v) ?_ ?_
  rotate_left
  · repeat (first | (refine TL.isLoad ?_; first | refine TL.loadW rfl yB (by exact rfl) rfl ?_) | refine TL.nil ?_ | refine T.seq ?_ | refine T.region ?_ | (refine TL.isBox ?_; first | (refine TL.boxA rfl rfl ?_; intro bk w' hg hbk hsz hsz')) | (refine TL.isAlloc ?_; first | (refine alloc_pt rfl ?_; intro bk w' hg hbk hsz hsz')) | refine uptoQ_normal ?_ | refine upto_seq ?_)
    rename_i b4 w4 g4 k4 s4 t4 b5 w5 g5 k5 s5 t5 b6 w6 g6 k6 s6 t6 b7 w7 g7 k7 s7 t7
    obtain ⟨b8, rfl⟩ : ∃ q, q = bk := ⟨_, rfl⟩
    have hw8 : w.heap.size ≤ b8 := by omega
    refine TL.call rfl (hck _) rfl ?_
    rintro _ _ ⟨rfl, hg1⟩
    repeat (first | (refine TL.isGuard ?_; first | refine TL.guard_run rfl rfl rfl ?_) | (refine TL.isMove ?_; first | refine TL.pure rfl rfl ?_) | (refine TL.isLoad ?_; first | refine TL.loadW rfl yB (by exact rfl) rfl ?_) | (refine TL.isBin ?_; first | refine TL.pureF rfl yD rfl ?_))
    refine TL.call rfl (hck2 _) rfl ?_
    rintro _ _ ⟨rfl, hg2⟩
    have hc8 := hbk
    repeat (first | (refine TL.isGuard ?_; first | refine TL.guard_run rfl rfl rfl ?_) | refine TL.nil ?_ | refine thenQ_normal ?_ | refine T.region ?_ | (refine TL.isBin ?_; first | refine TL.pureF rfl yD rfl ?_) | (refine TL.isStore ?_; first | (refine TL.storeWh rfl rfl yB (by exact rfl) (by exact rfl) (by exact rfl) ?_; intro w' hu hbk hsz)) | (refine TL.isAlloc ?_; first | (refine TL.alloc rfl rfl ?_; intro bk w' hg hbk hsz hsz')) | refine T.cond_false rfl ?_ | refine T.skip ?_ | refine TL.pure rfl rfl ?_ | refine uptoQ_normal ?_ | refine upto_seq ?_ | refine upto_end ?_ | (refine TL.isFn 54 ?_; refine TL.call rfl (d_c _) rfl ?_; rintro _ _ ⟨rfl, hgc⟩) | (refine TL.isFn 30 ?_; refine TL.call rfl (add_f dN dN (by decide) (by decide) _) rfl ?_; rintro _ _ ⟨rfl, hgc⟩))
    obtain ⟨b9, rfl⟩ : ∃ q, q = bk := ⟨_, rfl⟩
    refine ⟨b4, b5, b6, b7, b8, b9, ⟨rfl, rfl, rfl, rfl, rfl, rfl, trivial⟩, ?_, ?_, ?_, ?_, ?_, hbk, hw8, ?_⟩
    · exact yB
    · exact yB
    · exact yB
    · exact yB
    · exact yB
    · exact yG
  rintro e w1 ⟨b4, b5, b6, b7, b8, b9, hsub, m4, m5, m6, m7, m8, m9, hw8, hG⟩
  clear hck hck2
  refine T.weaken (e' := [(4, _), (5, _), (6, _), (7, _), (8, _), (9, _)]) ?_ hsub
  clear hsub
  have p1 : P.1 < 115792089237316195423570985008687907853269984665640564039457584007913129639936 := Nat.lt_trans hP.1 (by decide)
  have p2 : P.2 < 115792089237316195423570985008687907853269984665640564039457584007913129639936 := Nat.lt_trans hP.2.1 (by decide)
  have r1 : R.1 < 115792089237316195423570985008687907853269984665640564039457584007913129639936 := Nat.lt_trans hR.1 (by decide)
  have r2 : R.2 < 115792089237316195423570985008687907853269984665640564039457584007913129639936 := Nat.lt_trans hR.2.1 (by decide)
  have l4 := m4.lt
  have l5 := m5.lt
  have l6 := m6.lt
  have l7 := m7.lt
  have l8 := m8.lt
  have l9 := m9.lt
  refine T.cutAt 1 (fun e v => ∃ b10 b11 b12 b13, Sub [(4, .pointer (some ⟨b4, 0, none⟩)), (6, .pointer (some ⟨b6, 0, none⟩)), (8, .pointer (some ⟨b8, 0, none⟩)), (9, .pointer (some ⟨b9, 0, none⟩)), (10, .pointer (some ⟨b10, 0, none⟩)), (11, .pointer (some ⟨b11, 0, none⟩)), (12, .pointer (some ⟨b12, 0, none⟩)), (13, .pointer (some ⟨b13, 0, none⟩))] e ∧ M2 a b P R P b4 b6 b8 b9 b10 b11 b12 v ∧ b11 ≠ b12 ∧ Ne7 b4 b6 b8 b9 b10 b11 b11 b12 ∧ b13 ≠ b12 ∧ w.heap.size ≤ b12 ∧ Ne7 b4 b6 b8 b9 b10 b11 b12 b13 ∧ w.heap.size ≤ b13 ∧ Wp v b13 zeroP ∧ Grow w v) ?_ ?_
  rotate_left
  · refine upto_seq ?_
    (apply T.any 12 [is _, is _, is _, is _, is _, is _, is _, is _, newB 80 (wdL 0 0 0 0), newB 80 (wdL 0 0 0 0), newB 80 (wdL 0 0 0 0), newB 80 (wdL 0 0 0 0)]; (· first | kernel_rfl); (· ((repeat' (first | exact allDo_end | refine allDo_cons ?_ ?_)); (iterate 8 (· ((first | refine does_mk0 rfl rfl rfl ?_); ( intro wq _ _ hgq; (repeat (refine need_cons rfl rfl ?_; intro vq hvq; try (obtain rfl := hvq))); (refine need_nil ?_)); (repeat (first | (refine TL.isLoad ?_; first | refine TL.loadW rfl yB (by exact rfl) rfl ?_) | refine TL.nil ?_ | (refine TL.isFn 80 ?_; refine TL.call rfl (widen_c _ (by first | assumption | decide) (by first | assumption | decide) _) rfl ?_; rintro _ _ ⟨rfl, hgc⟩) | (refine TL.isFn 46 ?_; refine TL.call rfl (zero_c _) rfl ?_; rintro _ _ ⟨rfl, hgc⟩))); exact one_end rfl yG rfl))); (iterate 4 (· (first | refine does_mk0 rfl rfl rfl ?_); ( intro wq _ _ hgq; (repeat (refine need_cons rfl rfl ?_; intro vq hvq; try (obtain rfl := hvq))); (refine need_nil ?_)); (repeat (first | refine TL.nil ?_ | (refine TL.isAlloc ?_; first | (refine alloc_wd rfl ?_; intro bk w' hg hbk hsz hsz')))); exact one_end rfl yG ⟨_, rfl, by omega, by omega, by assumption⟩)))); (rintro _ _ _ hgr hspan hdj; (repeat (refine need_cons rfl rfl ?_; intro vq hvq; try (obtain rfl := hvq))); (refine need_nil ?_)); obtain ⟨bn4, rfl, hl4, hh4, hnb4⟩ := hvq; obtain ⟨bn3, rfl, hl3, hh3, hnb3⟩ := hvq; obtain ⟨bn2, rfl, hl2, hh2, hnb2⟩ := hvq; obtain ⟨bn1, rfl, hl1, hh1, hnb1⟩ := hvq; (try simp only [Nat.reduceAdd] at hl1 hh1 hl2 hh2 hl3 hh3 hl4 hh4); have hd21 : bn2 ≠ bn1 := (by have hz := hdj 9 8 (by omega) (by omega) (by omega); omega); have hd31 : bn3 ≠ bn1 := (by have hz := hdj 10 8 (by omega) (by omega) (by omega); omega); have hd32 : bn3 ≠ bn2 := (by have hz := hdj 10 9 (by omega) (by omega) (by omega); omega); have hd41 : bn4 ≠ bn1 := (by have hz := hdj 11 8 (by omega) (by omega) (by omega); omega); have hd42 : bn4 ≠ bn2 := (by have hz := hdj 11 9 (by omega) (by omega) (by omega); omega); have hd43 : bn4 ≠ bn3 := (by have hz := hdj 11 10 (by omega) (by omega) (by omega); omega); have hsp := hspan 8 (by omega); replace hl1 := Nat.le_trans hsp.1 hl1; replace hh1 := Nat.lt_of_lt_of_le hh1 hsp.2.2; clear hsp; have hsp := hspan 9 (by omega); replace hl2 := Nat.le_trans hsp.1 hl2; replace hh2 := Nat.lt_of_lt_of_le hh2 hsp.2.2; clear hsp; have hsp := hspan 10 (by omega); replace hl3 := Nat.le_trans hsp.1 hl3; replace hh3 := Nat.lt_of_lt_of_le hh3 hsp.2.2; clear hsp; have hsp := hspan 11 (by omega); replace hl4 := Nat.le_trans hsp.1 hl4; replace hh4 := Nat.lt_of_lt_of_le hh4 hsp.2.2; clear hsp; clear hspan hdj)
    obtain ⟨b10, rfl⟩ : ∃ q, q = bn1 := ⟨_, rfl⟩
    obtain ⟨b11, rfl⟩ : ∃ q, q = bn2 := ⟨_, rfl⟩
    obtain ⟨b12, rfl⟩ : ∃ q, q = bn3 := ⟨_, rfl⟩
    obtain ⟨b13, rfl⟩ : ∃ q, q = bn4 := ⟨_, rfl⟩
    have hz : Val zeroP := zero_val
    have hg0 := hG.2
    repeat (first | refine TL.nil ?_ | (refine TL.isStore ?_; first | (refine TL.storeWh rfl rfl yB (by exact rfl) (by exact rfl) (by exact rfl) ?_; intro w' hu hbk hsz)) | refine uptoQ_normal ?_ | refine upto_end ?_)
    have k10 : Blk w' b10 80 (wdL P.1 P.2 1 (fmul P.1 P.2)) := by exact yB
    have k11 : Blk w' b11 80 (wdL R.1 R.2 1 (fmul R.1 R.2)) := by exact yB
    have k12 : Blk w' b12 80 (wdL P.1 P.2 1 (fmul P.1 P.2)) := by exact yB
    have k13 : Blk w' b13 80 (wdL zeroP.1 zeroP.2 1 (fmul zeroP.1 zeroP.2)) := by exact yB
    exact ⟨b10, b11, b12, b13, ⟨rfl, rfl, rfl, rfl, rfl, rfl, rfl, rfl, trivial⟩, ⟨yB, yB, yB, yB, wp_of hP k10, wp_of hR k11, wp_of hP k12⟩, by omega, ⟨by omega, by omega, by omega, by omega, by omega, by omega, by omega⟩, by omega, by omega, ⟨by omega, by omega, by omega, by omega, by omega, by omega, by omega⟩, by omega, wp_of hz k13, yG⟩
  clear m4 m5 m6 m7 m8 m9 hG l4 l5 l6 l7 l8 l9
  rintro e w2 ⟨b10, b11, b12, b13, hsub, ⟨m4, m6, m8, m9, m10, m11, m12⟩, n11, n12, n13, g12, n13', g13, m13, hG⟩
  refine T.weaken (e' := [(4, _), (6, _), (8, _), (9, _), (10, _), (11, _), (12, _), (13, _)]) ?_ hsub
  clear hsub
  repeat (first | (refine TL.isLoad ?_; first | refine TL.loadW rfl yB (by exact rfl) rfl ?_) | refine T.seq ?_ | refine T.region ?_)
  refine TL.call rfl (add_p b12 b11 P R hP hR n11 _ m12 m11) rfl ?_
  rintro _ w3 ⟨hB3, hW3⟩
  have hM : M2 a b P R (addP P R) b4 b6 b8 b9 b10 b11 b12 w3 := ⟨blk_but hB3 m4 n12.n4, blk_but hB3 m6 n12.n6, blk_but hB3 m8 n12.n8, blk_but hB3 m9 n12.n9, wp_but m10 n12.n10 hB3, wp_but m11 n12.n11 hB3, hW3⟩
  have k13 := wp_but m13 n13 hB3
  have hG3 := grow_but hB3 g12 hG
  clear m4 m6 m8 m9 m10 m11 m12 m13 hG hB3 hW3 n11 n12 n13 g12
  repeat (first | (refine TL.isAsg ?_; first | refine TL.pure rfl rfl ?_) | refine TL.nil ?_ | refine thenQ_normal ?_ | refine T.seq ?_ | refine T.region ?_ | refine T.block ?_)
  refine T.loop (S := Nat) (fun k => [(14, ctr k), (4, .pointer (some ⟨b4, 0, none⟩)), (6, .pointer (some ⟨b6, 0, none⟩)), (8, .pointer (some ⟨b8, 0, none⟩)), (9, .pointer (some ⟨b9, 0, none⟩)), (10, .pointer (some ⟨b10, 0, none⟩)), (11, .pointer (some ⟨b11, 0, none⟩)), (12, .pointer (some ⟨b12, 0, none⟩)), (13, .pointer (some ⟨b13, 0, none⟩))])
    (fun k v => k ≤ 256 ∧ M2 a b P R (addP P R) b4 b6 b8 b9 b10 b11 b12 v ∧ Wp v b13 (lad a b k P R) ∧ Grow w v) (fun k => k) 256 ⟨rfl, rfl, rfl, rfl, rfl, rfl, rfl, rfl, rfl, trivial⟩ ⟨by omega, hM, by rw [lad_top hP hR ha hb]; exact k13, hG3⟩ ?_
  clear hM k13 hG3
  rintro k v ⟨hk, hM, hW, hG⟩
  have hv := lad_val hP hR a b k
  cases k with
  | zero =>
    obtain ⟨m4, m6, m8, m9, m10, m11, m12⟩ := hM
    refine T.weaken (e' := [(14, .int .i64 (-1)), (8, _), (13, _)]) ?_ ⟨rfl, rfl, rfl, trivial⟩
    have l8 := m8.lt
    repeat (first | (refine TL.isMove ?_; first | refine TL.pure rfl rfl ?_) | refine TL.nil ?_ | refine thenQ_normal ?_ | refine T.seq ?_ | refine T.region ?_ | (refine TL.isBin ?_; first | refine TL.pureF rfl yD rfl ?_) | refine T.cond_false rfl ?_ | refine T.exit ?_ | refine thenQ_exit ?_ | refine blockQ_hit ?_ | refine loopQ_exit ?_)
    refine TL.call rfl (point_p b13 _ hv _ hW) rfl ?_
    rintro _ w4 ⟨rfl, hg4⟩
    repeat (first | refine TL.nil ?_ | refine thenQ_normal ?_ | (refine TL.isStore ?_; first | (refine TL.storeWh rfl rfl yB (by exact rfl) (by exact rfl) (by exact rfl) ?_; intro w' hu hbk hsz)) | refine T.ret ?_)
    exact retC rfl (load_whole (by assumption) rfl) ⟨_, rfl, by rw [← lad_0], yG⟩
  | succ k =>
    refine T.weaken (e' := [(14, .int .i64 (k : Int)), (4, _), (6, _), (8, _), (9, _), (10, _), (11, _), (12, _), (13, _)]) ?_ ⟨rfl, rfl, rfl, rfl, rfl, rfl, rfl, rfl, rfl, trivial⟩
    repeat (first | (refine TL.isMove ?_; first | refine TL.pure rfl rfl ?_) | refine TL.nil ?_ | refine thenQ_normal ?_ | refine T.seq ?_ | refine T.region ?_ | refine T.block ?_ | (refine TL.isBin ?_; first | refine TL.pureT rfl yD rfl ?_) | refine T.cond_true rfl ?_ | refine T.skip ?_)
    refine TL.call rfl (dbl_p b13 _ hv _ hW) rfl ?_
    rintro _ w4 ⟨hB4, hW4⟩
    have hG4 := grow_but hB4 g13 hG
    have hv4 := add_val hv hv
    have hs : ∀ c1 c2 : Bool, decide (a / 2 ^ k % 2 = 1) = c1 → decide (b / 2 ^ k % 2 = 1) = c2 → lad a b k P R = match c1, c2 with
      | true, true => addP (addP (lad a b (k + 1) P R) (lad a b (k + 1) P R)) (addP P R)
      | true, false => addP (addP (lad a b (k + 1) P R) (lad a b (k + 1) P R)) P
      | false, true => addP (addP (lad a b (k + 1) P R) (lad a b (k + 1) P R)) R
      | false, false => addP (lad a b (k + 1) P R) (lad a b (k + 1) P R) := by
      intro c1 c2 h1 h2
      cases c1 <;> cases c2 <;> simp only [decide_eq_true_eq, decide_eq_false_iff_not] at h1 h2
      · exact lad_00 hP hR h1 h2
      · exact lad_01 hP hR h1 h2
      · exact lad_10 hP hR h1 h2
      · exact lad_11 hP hR h1 h2
    replace hs := hs _ _ rfl rfl
    have hk' : k < 256 := by omega
    have hM4 := hM.but n13' hB4
    obtain ⟨m4, m6, m8, m9, m10, m11, m12⟩ := hM4
    clear hM hW hB4 hG
    have l4 := m4.lt
    have l6 := m6.lt
    repeat (first | refine TL.nil ?_ | refine thenQ_normal ?_ | refine T.seq ?_)
    apply T.any 7 [is _, is _, is _, is _, is _, is _, is _]; (· first | kernel_rfl); (· ((repeat' (first | exact allDo_end | refine allDo_cons ?_ ?_)); (iterate 7 (· ((first | refine does_mk0 rfl rfl rfl ?_); ( intro wq _ _ hgq; (repeat (refine need_cons rfl rfl ?_; intro vq hvq; try (obtain rfl := hvq))); (refine need_nil ?_)); (repeat (first | (refine TL.isMove ?_; first | refine TL.pure rfl rfl ?_) | (refine TL.isLoad ?_; first | refine TL.loadW rfl yB (by exact rfl) rfl ?_) | refine TL.nil ?_ | (refine TL.isBuild ?_; first | refine TL.build rfl rfl rfl ?_) | (refine TL.isFn 84 ?_; refine TL.call rfl (bit_c' _ k hk' _) rfl ?_; rintro _ _ ⟨rfl, hgc⟩))); first | exact one_end rfl yG rfl))))); (rintro _ _ _ hgr _ _; (repeat (refine need_cons rfl rfl ?_; intro vq hvq; try (obtain rfl := hvq))); (refine need_nil ?_))
    generalize decide (a / 2 ^ k % 2 = 1) = c1 at *
    generalize decide (b / 2 ^ k % 2 = 1) = c2 at *
    have hM5 := M2.grow ⟨m4, m6, m8, m9, m10, m11, m12⟩ hgr
    have hW5 := wp_grow hW4 hgr
    have hG5 := grow_trans hgr hG4
    clear m4 m6 m8 m9 m10 m11 m12 hW4 hG4 l4 l6 hgr
    obtain ⟨m4, m6, m8, m9, m10, m11, m12⟩ := hM5
    have hM5 : M2 a b P R (addP P R) b4 b6 b8 b9 b10 b11 b12 _ := ⟨m4, m6, m8, m9, m10, m11, m12⟩
    first | (refine TL.nil ?_; refine thenQ_normal ?_)
    refine T.weaken (e' := [(48, .agg #[.bool c1, .bool c2]), (14, .int .i64 (k : Int)), (4, _), (6, _), (8, _), (9, _), (10, _), (11, _), (12, _), (13, _)]) ?_ ⟨rfl, rfl, rfl, rfl, rfl, rfl, rfl, rfl, rfl, rfl, trivial⟩
    have l9 := m9.lt
    cases c1 <;> cases c2
    · repeat (first | (refine TL.isMove ?_; first | refine TL.pure rfl rfl ?_) | (refine TL.isAsg ?_; first | refine TL.pure rfl rfl ?_) | (refine TL.isSub ?_; first | refine TL.subI rfl rfl (by omega) (by omega) rfl ?_) | refine TL.nil ?_ | refine thenQ_normal ?_ | refine T.seq ?_ | refine T.region ?_ | refine T.block ?_ | refine blockQ_normal ?_ | (refine TL.isBuild ?_; first | refine TL.build rfl rfl rfl ?_) | refine T.cond_false rfl ?_ | refine T.skip ?_ | (refine TL.isEqT 86 ?_; refine eq_pair rfl rfl rfl ?_))
      exact loopQ_normal k ⟨ctr_at k, rfl, rfl, rfl, rfl, rfl, rfl, rfl, rfl, trivial⟩ ⟨by omega, hM5, by rw [hs]; exact hW5, hG5⟩ (by omega)
    · repeat (first | (refine TL.isAsg ?_; first | refine TL.pure rfl rfl ?_) | (refine TL.isLoad ?_; first | refine TL.loadW rfl yB (by exact rfl) rfl ?_) | refine TL.nil ?_ | refine thenQ_normal ?_ | refine T.seq ?_ | refine T.region ?_ | refine T.block ?_ | (refine TL.isBuild ?_; first | refine TL.build rfl rfl rfl ?_) | refine T.cond_true rfl ?_ | refine T.cond_false rfl ?_ | (refine TL.isEqT 86 ?_; refine eq_pair rfl rfl rfl ?_))
      refine TL.call rfl (add_p b13 b11 _ R hv4 hR n13'.n11 _ hW5 m11) rfl ?_
      rintro _ w6 ⟨hB6, hW6⟩
      have hM6 := hM5.but n13' hB6
      have hG6 := grow_but hB6 g13 hG5
      repeat (first | (refine TL.isMove ?_; first | refine TL.pure rfl rfl ?_) | (refine TL.isAsg ?_; first | refine TL.pure rfl rfl ?_) | (refine TL.isSub ?_; first | refine TL.subI rfl rfl (by omega) (by omega) rfl ?_) | refine TL.nil ?_ | refine thenQ_normal ?_ | refine T.region ?_ | refine blockQ_normal ?_)
      exact loopQ_normal k ⟨ctr_at k, rfl, rfl, rfl, rfl, rfl, rfl, rfl, rfl, trivial⟩ ⟨by omega, hM6, by rw [hs]; exact hW6, hG6⟩ (by omega)
    · repeat (first | (refine TL.isAsg ?_; first | refine TL.pure rfl rfl ?_) | (refine TL.isLoad ?_; first | refine TL.loadW rfl yB (by exact rfl) rfl ?_) | refine TL.nil ?_ | refine thenQ_normal ?_ | refine T.seq ?_ | refine T.region ?_ | refine T.block ?_ | (refine TL.isBuild ?_; first | refine TL.build rfl rfl rfl ?_) | refine T.cond_true rfl ?_ | refine T.cond_false rfl ?_ | (refine TL.isEqT 86 ?_; refine eq_pair rfl rfl rfl ?_))
      refine TL.call rfl (add_p b13 b10 _ P hv4 hP n13'.n10 _ hW5 m10) rfl ?_
      rintro _ w6 ⟨hB6, hW6⟩
      have hM6 := hM5.but n13' hB6
      have hG6 := grow_but hB6 g13 hG5
      repeat (first | (refine TL.isMove ?_; first | refine TL.pure rfl rfl ?_) | (refine TL.isAsg ?_; first | refine TL.pure rfl rfl ?_) | (refine TL.isSub ?_; first | refine TL.subI rfl rfl (by omega) (by omega) rfl ?_) | refine TL.nil ?_ | refine thenQ_normal ?_ | refine T.region ?_ | refine blockQ_normal ?_)
      exact loopQ_normal k ⟨ctr_at k, rfl, rfl, rfl, rfl, rfl, rfl, rfl, rfl, trivial⟩ ⟨by omega, hM6, by rw [hs]; exact hW6, hG6⟩ (by omega)
    · repeat (first | (refine TL.isAsg ?_; first | refine TL.pure rfl rfl ?_) | (refine TL.isLoad ?_; first | refine TL.loadW rfl yB (by exact rfl) rfl ?_) | refine TL.nil ?_ | refine thenQ_normal ?_ | refine T.seq ?_ | refine T.region ?_ | refine T.block ?_ | (refine TL.isBuild ?_; first | refine TL.build rfl rfl rfl ?_) | refine T.cond_true rfl ?_ | (refine TL.isEqT 86 ?_; refine eq_pair rfl rfl rfl ?_))
      refine TL.call rfl (add_p b13 b12 _ (addP P R) hv4 (add_val hP hR) n13'.n12 _ hW5 m12) rfl ?_
      rintro _ w6 ⟨hB6, hW6⟩
      have hM6 := hM5.but n13' hB6
      have hG6 := grow_but hB6 g13 hG5
      repeat (first | (refine TL.isMove ?_; first | refine TL.pure rfl rfl ?_) | (refine TL.isAsg ?_; first | refine TL.pure rfl rfl ?_) | (refine TL.isSub ?_; first | refine TL.subI rfl rfl (by omega) (by omega) rfl ?_) | refine TL.nil ?_ | refine thenQ_normal ?_ | refine T.region ?_ | refine blockQ_normal ?_)
      exact loopQ_normal k ⟨ctr_at k, rfl, rfl, rfl, rfl, rfl, rfl, rfl, rfl, trivial⟩ ⟨by omega, hM6, by rw [hs]; exact hW6, hG6⟩ (by omega)
end Go.Proofs.Ytmpjigghgedjbaa
namespace Go.Proofs.Ytmpjigghgedjbaa
open Go Go.RowKit Go.V Go.N Go.E
set_option maxRecDepth 1000000
abbrev pM (a b : Ex) : Ex := .f 22 a b
theorem vrs_four [Gl] {ρ : Plc} {a b c d : V} {xs : List Value} (h : VRs ρ [a, b, c, d] xs) : ∃ x y z t, xs = [x, y, z, t] ∧ VR ρ a x ∧ VR ρ b y ∧ VR ρ c z ∧ VR ρ d t := by
  cases h with
  | cons _ _ _ _ h1 h =>
    cases h with
    | cons _ _ _ _ h2 h =>
      cases h with
      | cons _ _ _ _ h3 h =>
        cases h with
        | cons _ _ _ _ h4 h =>
          cases h
          exact ⟨_, _, _, _, rfl, h1, h2, h3, h4⟩
def gMul2P (vals : List Ex) (nf : List (Ex × Ex)) : List V → Option V
  | [a, u, b, v] => match exN 32 a, gPt u, exN 32 b, gPt v with
    | some x, some p, some y, some q => bif two (inE vals p) (inE vals q) then some (mkP (nfE nf (.f 20 (.f 22 x p) (.f 22 y q)))) else none
    | _, _, _, _ => none
  | _ => none
def gMulP (vals : List Ex) (nf : List (Ex × Ex)) : List V → Option V
  | [a, u] => match exN 32 a, gPt u with
    | some x, some p => bif inE vals p then some (mkP (nfE nf (.f 22 x p))) else none
    | _, _ => none
  | _ => none
section
variable (K : Know) {vals : List Ex} {nf : List (Ex × Ex)}
theorem pe_mul (a b : Ex) : pe K (.f 22 a b) = mulP (dn K a) (pe K b) := (Eq.refl _).trans (Eq.refl _)
theorem pe_add' (a b : Ex) : pe K (.f 20 a b) = addP (pe K a) (pe K b) := (Eq.refl _).trans (Eq.refl _)
theorem gMul2P_ok (hv : ∀ e ∈ vals, Val (pe K e)) (hn : ∀ p ∈ nf, pe K p.1 = pe K p.2) : @GOk K.gl Try.prog 48 (gMul2P vals nf) := by
  letI := K.gl
  intro vs v h ρ xs w hvs
  unfold gMul2P at h
  split at h
  · split at h
    · rename_i x p y q hx hp hy hq
      cases h1 : two (inE vals p) (inE vals q) with
      | false => rw [h1] at h; cases h
      | true =>
        rw [h1] at h
        cases h
        obtain ⟨i1, i2⟩ := two_tt h1
        obtain ⟨a1, a2, a3, a4, rfl, k1, k2, k3, k4⟩ := vrs_four hvs
        obtain ⟨rfl, l1⟩ := num_nm K hx k1
        obtain ⟨rfl, l3⟩ := num_nm K hy k3
        have e1 := gPt_ok K hp k2
        have e2 := gPt_ok K hq k4
        subst e1 e2
        have v1 := hv p (inE_ok i1)
        have v2 := hv q (inE_ok i2)
        have hs : Small256 (pe K (nfE nf (.f 20 (.f 22 x p) (.f 22 y q)))) := by rw [nfE_ok K hn, pe_add', pe_mul, pe_mul]; exact val_small (add_val (mul_val v1 _) (mul_val v2 _))
        refine (mul2_y _ _ _ _ l1 l3 v1 v2 w).mono fun en w' ⟨v, e1, e2, e3⟩ => ⟨v, e1, ?_, e3⟩
        have := mkP_vr K hs ρ
        rw [nfE_ok K hn, pe_add', pe_mul, pe_mul] at this
        rw [e2]
        exact this
    · cases h
  · cases h
end
noncomputable def conM (vals : List Ex) (nf : List (Ex × Ex)) : List (Nat × Con) :=
  [(48, conOf (gMul2P vals nf)), (18, conOf gOf)]
theorem conM_ok (K : Know) {vals : List Ex} {nf : List (Ex × Ex)} (hv : ∀ e ∈ vals, Val (pe K e)) (hn : ∀ p ∈ nf, pe K p.1 = pe K p.2) (i : LoopTab) (f : Nat) (c : Con) (h : (f, c) ∈ conM vals nf) : @ConOk i K.gl Try.prog f c := by
  letI := K.gl
  letI := i
  simp only [conM, List.mem_cons, Prod.mk.injEq, List.mem_nil_iff, or_false] at h
  rcases h with ⟨rfl, rfl⟩ | ⟨rfl, rfl⟩
  · exact conOf_ok fn48 (gMul2P_ok K hv hn)
  · exact conOf_ok fn18 (gOf_ok K)
def kp1 (k : Nat) (P : Pt) : Nat → Nat × Pt := fun _ => (k, P)
def nfM : List (Ex × Ex) := [(.f 20 (.f 22 (.v 0) (.v 0)) (.f 22 (.c 0) (.c 0)), .f 22 (.v 0) (.v 0))]
theorem mul_run (K : Know) : (letI := K.gl; callN false (ctxL (conM [.v 0, .c 0] nfM)) true 20 0 0 (.fn 47) [nmV (.v 0), mkP (.v 0)] .lf 0 (fun v _ _ => sameVv v (mkP (.f 22 (.v 0) (.v 0))))) = true := by kernel_rfl
theorem mul_y (k : Nat) (P : Pt) (hk : k < 115792089237316195423570985008687907853269984665640564039457584007913129639936) (hP : Val P) (w : World) : Calls Try.prog 47 #[num k, pt P] w (Ret fun v w' => v = pt (mulP k P) ∧ Grow w w') := by
  obtain ⟨I, hI⟩ := inv_ex
  obtain ⟨K, hK⟩ : ∃ K, K = know hI (kp1 k P) := ⟨_, rfl⟩
  have s0 : K.σ 0 = (k, P) := by rw [hK]; rfl
  have p0 : pe K (.v 0) = P := by show (K.σ 0).2 = P; rw [s0]
  have d0 : dn K (.v 0) = k := by show (K.σ 0).1 = k; rw [s0]
  have pz : pe K (.c 0) = zeroP := (Eq.refl _).trans (Eq.refl _)
  have hv : ∀ e ∈ [(.v 0 : Ex), .c 0], Val (pe K e) := by
    intro e he
    simp only [List.mem_cons, List.mem_nil_iff, or_false] at he
    rcases he with rfl | rfl
    · rw [p0]; exact hP
    · rw [pz]; exact zero_val
  have hn : ∀ p ∈ nfM, pe K p.1 = pe K p.2 := by
    intro p hp
    simp only [nfM, List.mem_cons, List.mem_nil_iff, or_false] at hp
    subst hp
    rw [pe_add', pe_mul, pe_mul, p0, pz, d0, mul_zeroP, add_zero' (mul_val hP k)]
  have r0 := num_vr K (x := .v 0) d0 hk
  have r1 := mkP_vr K (e := .v 0) (by rw [p0]; exact val_small hP)
  rw [p0] at r1
  have := run_calls K (conM_ok K hv hn) (fi := fiOf Try.f47) (by kernel_rfl) (by kernel_rfl) (xs := [num k, pt P]) (fun ρ => by letI := K.gl; exact .cons _ _ _ _ (r0 ρ) (.cons _ _ _ _ (r1 ρ) .nil)) (mul_run K) w
  refine this.mono fun en w' ⟨x, e1, ⟨ρ, e2⟩, e3⟩ => ⟨x, e1, ?_, e3⟩
  have := gPt_ok K (v := mkP (.f 22 (.v 0) (.v 0))) (e := .f 22 (.v 0) (.v 0)) (by rfl) e2
  rw [this, pe_mul, p0, d0]
section
variable (K : Know) {vals : List Ex} {nf : List (Ex × Ex)}
theorem gMulP_ok (hv : ∀ e ∈ vals, Val (pe K e)) (hn : ∀ p ∈ nf, pe K p.1 = pe K p.2) : @GOk K.gl Try.prog 47 (gMulP vals nf) := by
  letI := K.gl
  intro vs v h ρ xs w hvs
  unfold gMulP at h
  split at h
  · split at h
    · rename_i x p hx hp
      cases i1 : inE vals p with
      | false => rw [i1] at h; cases h
      | true =>
        rw [i1] at h
        cases h
        obtain ⟨a1, a2, rfl, k1, k2⟩ := hvs.two
        obtain ⟨rfl, l1⟩ := num_nm K hx k1
        have e1 := gPt_ok K hp k2
        subst e1
        have v1 := hv p (inE_ok i1)
        have hs : Small256 (pe K (nfE nf (.f 22 x p))) := by rw [nfE_ok K hn, pe_mul]; exact val_small (mul_val v1 _)
        refine (mul_y _ _ l1 v1 w).mono fun en w' ⟨v, e1, e2, e3⟩ => ⟨v, e1, ?_, e3⟩
        have := mkP_vr K hs ρ
        rw [nfE_ok K hn, pe_mul] at this
        rw [e2]
        exact this
    · cases h
  · cases h
end
end Go.Proofs.Ytmpjigghgedjbaa
namespace Go.Proofs.Ytmpjigghgedjbaa
open Go Go.RowKit Go.V Go.N Go.E
set_option maxRecDepth 1000000
abbrev pA (a b : Ex) : Ex := .f 20 a b
abbrev pN (a : Ex) : Ex := .f 21 a (.c 0)
def three (P Q R : Pt) : Nat → Nat × Pt := fun i => bif Nat.beq i 0 then (0, P) else bif Nat.beq i 1 then (0, Q) else (0, R)
section
variable (K : Know)
theorem pe_add (a b : Ex) : pe K (pA a b) = addP (pe K a) (pe K b) := (Eq.refl _).trans (Eq.refl _)
theorem pe_neg (a : Ex) : pe K (pN a) = negP (pe K a) := (Eq.refl _).trans (Eq.refl _)
theorem pe_zero : pe K (.c 0) = zeroP := (Eq.refl _).trans (Eq.refl _)
theorem pe_v (i : Nat) : pe K (.v i) = (K.σ i).2 := (Eq.refl _).trans (Eq.refl _)
end
section
variable {I : Nat → Nat} {σ : Nat → Nat × Pt}
theorem dX (e : Ex) : (dens I σ (.f 10 e (.c 0))).1 = (dens I σ e).2.1 := (Eq.refl _).trans (Eq.refl _)
theorem dY (e : Ex) : (dens I σ (.f 11 e (.c 0))).1 = (dens I σ e).2.2 := (Eq.refl _).trans (Eq.refl _)
theorem dA (a b : Ex) : (dens I σ (pA a b)).2 = addP (dens I σ a).2 (dens I σ b).2 := (Eq.refl _).trans (Eq.refl _)
theorem dN' (a : Ex) : (dens I σ (pN a)).2 = negP (dens I σ a).2 := (Eq.refl _).trans (Eq.refl _)
theorem dV (i : Nat) : (dens I σ (.v i)).2 = (σ i).2 := (Eq.refl _).trans (Eq.refl _)
theorem dC (s : Nat) : (dens I σ (.c s)).1 = s := (Eq.refl _).trans (Eq.refl _)
theorem t0 (P Q R : Pt) : (three P Q R 0).2 = P := (Eq.refl _).trans (Eq.refl _)
theorem t1 (P Q R : Pt) : (three P Q R 1).2 = Q := (Eq.refl _).trans (Eq.refl _)
theorem t2 (P Q R : Pt) : (three P Q R 2).2 = R := (Eq.refl _).trans (Eq.refl _)
end
def valsA : List Ex := [.v 0, pN (.v 0), .v 2, .c 0, pA (pN (.v 0)) (.v 2)]
def nfA : List (Ex × Ex) := [(pA (.v 0) (pN (.v 0)), .c 0), (pA (pN (.v 0)) (.v 0), .c 0), (pA (.c 0) (.v 2), .v 2), (pA (.v 0) (pA (pN (.v 0)) (.v 2)), .v 2), (pA (.v 0) (.c 0), .v 0), (pA (.c 0) (pN (.v 0)), pN (.v 0)), (pN (.c 0), .c 0), (pN (pN (.v 0)), .v 0)]
def valsB : List Ex := [.v 0, .v 1, .v 2, .c 0, pN (.v 0), pN (.v 1), pA (.v 0) (.v 1), pA (.v 1) (.v 2)]
def nfB : List (Ex × Ex) := [(pA (.v 1) (.v 0), pA (.v 0) (.v 1)), (pA (.v 0) (pA (.v 1) (.v 2)), pA (pA (.v 0) (.v 1)) (.v 2)), (pA (.v 0) (.c 0), .v 0), (pA (.v 0) (pN (.v 0)), .c 0), (pA (pA (.v 0) (.v 1)) (pN (.v 0)), .v 1), (pA (pN (.v 0)) (pN (.v 1)), pN (pA (.v 0) (.v 1)))]
abbrev X10 (e : Ex) : Ex := .f 10 e (.c 0)
abbrev Y11 (e : Ex) : Ex := .f 11 e (.c 0)
def cmB (b1 b2 b3 b4 : Bool) : List (Ex × Ex × Bool) := [(X10 (pA (.v 0) (.v 1)), .c 0, b1), (Y11 (pA (.v 0) (.v 1)), .c 1, b2), (X10 (.v 1), X10 (pN (.v 0)), b3), (Y11 (.v 1), Y11 (pN (.v 0)), b4)]
section
variable {I : Nat → Nat} (hI : ∀ a, I a = pw a 57896044618658097711785492504343953926634992332820282019728792003956564819947)
theorem groupA_run (K : Know) : (letI := K.gl; callN false (ctxL (conG valsA nfA)) true 20 0 0 (.fn 10) [mkP (.v 0), mkP (pN (.v 0)), mkP (.v 2)] .lf 0 (fun v _ _ => sameVv v (.at (.bool true)))) = true := by kernel_rfl
theorem groupB_run (P Q R : Pt) (b1 b2 b3 b4 : Bool) (hl) (h1 : (b1 && b2) = false) (h2 : (b3 && b4) = false) : (letI := (knowC hI (three P Q R) (cmB b1 b2 b3 b4) hl).gl; callN false (ctxL (conG valsB nfB)) true 20 0 0 (.fn 10) [mkP (.v 0), mkP (.v 1), mkP (.v 2)] .lf 0 (fun v _ _ => sameVv v (.at (.bool true)))) = true := by
  cases b1 <;> cases b2 <;> cases b3 <;> cases b4 <;> first | (cases h1; done) | (cases h2; done) | kernel_rfl
end
theorem group_val (P Q R : Pt) (hP : Val P) (hQ : Val Q) (hR : Val R) (w : World) : Calls Try.prog 10 #[pt P, pt Q, pt R] w (Ret fun v w' => v = .bool true ∧ Grow w w') := by
  obtain ⟨I, hI⟩ := inv_ex
  by_cases hq : Q = negP P
  · subst hq
    obtain ⟨K, hK⟩ : ∃ K, K = know hI (three P (negP P) R) := ⟨_, rfl⟩
    have s0 : (K.σ 0).2 = P := by rw [hK]; rfl
    have s2 : (K.σ 2).2 = R := by rw [hK]; rfl
    have n1 := add_neg' hP
    have hN := neg_val hP
    have n2 : addP (negP P) P = zeroP := by rw [add_comm' hN hP, n1]
    have hnn : negP (negP P) = P := (neg_unique hN hP n2).symm
    have hz : negP zeroP = zeroP := (neg_unique zero_val zero_val (add_zero' zero_val)).symm
    have hv : ∀ e ∈ valsA, Val (pe K e) := by
      intro e he
      simp only [valsA, List.mem_cons, List.mem_nil_iff, or_false] at he
      rcases he with rfl | rfl | rfl | rfl | rfl <;> simp only [pe_add, pe_neg, pe_zero, pe_v, s0, s2]
      · exact hP
      · exact hN
      · exact hR
      · exact zero_val
      · exact add_val hN hR
    have hn : ∀ p ∈ nfA, pe K p.1 = pe K p.2 := by
      intro p hp
      simp only [nfA, List.mem_cons, List.mem_nil_iff, or_false] at hp
      rcases hp with rfl | rfl | rfl | rfl | rfl | rfl | rfl | rfl <;> simp only [pe_add, pe_neg, pe_zero, pe_v, s0, s2]
      · exact n1
      · exact n2
      · exact zero_add' hR
      · rw [← add_assoc' hP hN hR, n1, zero_add' hR]
      · exact add_zero' hP
      · exact zero_add' hN
      · exact hz
      · exact hnn
    have r0 := mkP_vr K (e := .v 0) (by rw [pe_v, s0]; exact val_small hP)
    have r1 := mkP_vr K (e := pN (.v 0)) (by rw [pe_neg, pe_v, s0]; exact val_small hN)
    have r2 := mkP_vr K (e := .v 2) (by rw [pe_v, s2]; exact val_small hR)
    rw [pe_v, s0] at r0
    rw [pe_neg, pe_v, s0] at r1
    rw [pe_v, s2] at r2
    exact run_true K (conG_ok K hv hn) (fi := fiOf Try.f10) (by kernel_rfl) (by kernel_rfl) (xs := [pt P, pt (negP P), pt R])
      (fun ρ => by letI := K.gl; exact .cons _ _ _ _ (r0 ρ) (.cons _ _ _ _ (r1 ρ) (.cons _ _ _ _ (r2 ρ) .nil))) (groupA_run K) w
  · obtain ⟨b1, e1⟩ : ∃ b, b = Nat.beq (addP P Q).1 0 := ⟨_, rfl⟩
    obtain ⟨b2, e2⟩ : ∃ b, b = Nat.beq (addP P Q).2 1 := ⟨_, rfl⟩
    obtain ⟨b3, e3⟩ : ∃ b, b = Nat.beq Q.1 (negP P).1 := ⟨_, rfl⟩
    obtain ⟨b4, e4⟩ : ∃ b, b = Nat.beq Q.2 (negP P).2 := ⟨_, rfl⟩
    have h1 : (b1 && b2) = false := by
      cases hb : (b1 && b2) with
      | false => rfl
      | true =>
        simp only [Bool.and_eq_true] at hb
        obtain ⟨i1, i2⟩ := hb
        rw [i1] at e1
        rw [i2] at e2
        exact absurd (neg_unique hP hQ (Prod.ext (Nat.eq_of_beq_eq_true e1.symm) (Nat.eq_of_beq_eq_true e2.symm))) hq
    have h2 : (b3 && b4) = false := by
      cases hb : (b3 && b4) with
      | false => rfl
      | true =>
        simp only [Bool.and_eq_true] at hb
        obtain ⟨i1, i2⟩ := hb
        rw [i1] at e3
        rw [i2] at e4
        exact absurd (Prod.ext (Nat.eq_of_beq_eq_true e3.symm) (Nat.eq_of_beq_eq_true e4.symm)) hq
    have hl : ∀ p ∈ cmB b1 b2 b3 b4, p.2.2 = Nat.beq (dens I (three P Q R) p.1).1 (dens I (three P Q R) p.2.1).1 := by
      intro p hp
      simp only [cmB, List.mem_cons, List.mem_nil_iff, or_false] at hp
      rcases hp with rfl | rfl | rfl | rfl <;> simp only [dX, dY, dA, dN', dV, dC, t0, t1, t2]
      · exact e1
      · exact e2
      · exact e3
      · exact e4
    obtain ⟨K, hK⟩ : ∃ K, K = knowC hI (three P Q R) (cmB b1 b2 b3 b4) hl := ⟨_, rfl⟩
    have s0 : (K.σ 0).2 = P := by rw [hK]; rfl
    have s1 : (K.σ 1).2 = Q := by rw [hK]; rfl
    have s2 : (K.σ 2).2 = R := by rw [hK]; rfl
    have hN := neg_val hP
    have n1 := add_neg' hP
    have hM := neg_val hQ
    have hS := add_val hP hQ
    have a1 : addP (addP P Q) (negP P) = Q := by rw [add_comm' hP hQ, add_assoc' hQ hP hN, n1, add_zero' hQ]
    have hv : ∀ e ∈ valsB, Val (pe K e) := by
      intro e he
      simp only [valsB, List.mem_cons, List.mem_nil_iff, or_false] at he
      rcases he with rfl | rfl | rfl | rfl | rfl | rfl | rfl | rfl <;> simp only [pe_add, pe_neg, pe_zero, pe_v, s0, s1, s2]
      · exact hP
      · exact hQ
      · exact hR
      · exact zero_val
      · exact hN
      · exact hM
      · exact hS
      · exact add_val hQ hR
    have hn : ∀ p ∈ nfB, pe K p.1 = pe K p.2 := by
      intro p hp
      simp only [nfB, List.mem_cons, List.mem_nil_iff, or_false] at hp
      rcases hp with rfl | rfl | rfl | rfl | rfl | rfl <;> simp only [pe_add, pe_neg, pe_zero, pe_v, s0, s1, s2]
      · exact add_comm' hQ hP
      · exact (add_assoc' hP hQ hR).symm
      · exact add_zero' hP
      · exact n1
      · exact a1
      · refine neg_unique hS (add_val hN hM) ?_
        rw [← add_assoc' hS hN hM, a1, add_neg' hQ]
    have r0 := mkP_vr K (e := .v 0) (by rw [pe_v, s0]; exact val_small hP)
    have r1 := mkP_vr K (e := .v 1) (by rw [pe_v, s1]; exact val_small hQ)
    have r2 := mkP_vr K (e := .v 2) (by rw [pe_v, s2]; exact val_small hR)
    rw [pe_v, s0] at r0
    rw [pe_v, s1] at r1
    rw [pe_v, s2] at r2
    exact run_true K (conG_ok K hv hn) (fi := fiOf Try.f10) (by kernel_rfl) (by kernel_rfl) (xs := [pt P, pt Q, pt R])
      (fun ρ => by letI := K.gl; exact .cons _ _ _ _ (r0 ρ) (.cons _ _ _ _ (r1 ρ) (.cons _ _ _ _ (r2 ρ) .nil))) (by subst hK; exact groupB_run hI P Q R b1 b2 b3 b4 hl h1 h2) w
end Go.Proofs.Ytmpjigghgedjbaa
namespace Go.Proofs.Ytmpjigghgedjbaa
open Go Go.RowKit Go.V Go.N Go.E
set_option maxRecDepth 1000000
def gChkT (tab : List (Ex × Bool)) : List V → Option V
  | [u] => match gPt u with
    | some a => go tab a
    | none => none
  | _ => none
where go : List (Ex × Bool) → Ex → Option V
  | [], _ => none
  | (x, b) :: l, a => bif x.eq a then some (.at (.int .i64 (bif b then 0 else 2))) else go l a
theorem go_ok : ∀ {tab : List (Ex × Bool)} {a : Ex} {v : V}, gChkT.go tab a = some v → ∃ b, (a, b) ∈ tab ∧ v = .at (.int .i64 (bif b then 0 else 2))
  | [], a, v, h => by cases h
  | (x, b) :: l, a, v, h => by
    unfold gChkT.go at h
    cases h1 : x.eq a with
    | true =>
      rw [h1] at h
      cases h
      rw [← Ex.eq_eq h1]
      exact ⟨b, by simp, rfl⟩
    | false =>
      rw [h1] at h
      obtain ⟨b, h2, h3⟩ := go_ok h
      exact ⟨b, by simp [h2], h3⟩
section
variable (K : Know)
theorem gChkT_ok {tab : List (Ex × Bool)} (ht : ∀ p ∈ tab, Small256 (pe K p.1) ∧ (p.2 = true → Val (pe K p.1)) ∧ (p.2 = false → ¬ Val (pe K p.1))) : @GOk K.gl Try.prog 43 (gChkT tab) := by
  letI := K.gl
  intro vs v h ρ xs w hvs
  unfold gChkT at h
  split at h
  · split at h
    · rename_i a ha
      obtain ⟨b, hm, rfl⟩ := go_ok h
      obtain ⟨x, rfl, hx⟩ := hvs.one
      have e1 := gPt_ok K ha hx
      subst e1
      obtain ⟨hs, hy, hn⟩ := ht _ hm
      cases b with
      | true => exact (check_y' _ (hy rfl) w).mono fun en w' ⟨v, e1, e2, e3⟩ => ⟨v, e1, by rw [e2]; exact i64_vr 0 (by decide) ρ, e3⟩
      | false => exact (check_n' _ hs.1 hs.2 (hn rfl) w).mono fun en w' ⟨v, e1, e2, e3⟩ => ⟨v, e1, by rw [e2]; exact i64_vr 2 (by decide) ρ, e3⟩
    · cases h
  · cases h
noncomputable def conT2 (tab : List (Ex × Bool)) : List (Nat × Con) := [(40, conOf gTrue), (43, conOf (gChkT tab))]
theorem conT2_ok {tab : List (Ex × Bool)} (ht : ∀ p ∈ tab, Small256 (pe K p.1) ∧ (p.2 = true → Val (pe K p.1)) ∧ (p.2 = false → ¬ Val (pe K p.1))) (i : LoopTab) (f : Nat) (c : Con) (h : (f, c) ∈ conT2 tab) : @ConOk i K.gl Try.prog f c := by
  letI := K.gl
  letI := i
  simp only [conT2, List.mem_cons, Prod.mk.injEq, List.mem_nil_iff, or_false] at h
  rcases h with ⟨rfl, rfl⟩ | ⟨rfl, rfl⟩
  · exact conOf_ok fn40 (gTrue_ok K)
  · exact conOf_ok fn43 (gChkT_ok K ht)
theorem groupN_run (b0 b1 b2 : Bool) (h : (b0 && b1 && b2) = false) : (letI := K.gl; callN false (ctxL (conT2 [(.v 0, b0), (.v 1, b1), (.v 2, b2)])) true 20 0 0 (.fn 10) [mkP (.v 0), mkP (.v 1), mkP (.v 2)] .lf 0 (fun v _ _ => sameVv v (.at (.bool true)))) = true := by
  cases b0 <;> cases b1 <;> cases b2 <;> first | (cases h; done) | kernel_rfl
end
theorem group_c (P Q R : Pt) (hP : Small256 P) (hQ : Small256 Q) (hR : Small256 R) (w : World) : Calls Try.prog 10 #[pt P, pt Q, pt R] w (Ret fun v w' => v = .bool true ∧ Grow w w') := by
  classical
  by_cases hall : Val P ∧ Val Q ∧ Val R
  · exact group_val P Q R hall.1 hall.2.1 hall.2.2 w
  · obtain ⟨I, hI⟩ := inv_ex
    obtain ⟨K, hK⟩ : ∃ K, K = know hI (three P Q R) := ⟨_, rfl⟩
    have s0 : (K.σ 0).2 = P := by rw [hK]; rfl
    have s1 : (K.σ 1).2 = Q := by rw [hK]; rfl
    have s2 : (K.σ 2).2 = R := by rw [hK]; rfl
    have hb : (decide (Val P) && decide (Val Q) && decide (Val R)) = false := by
      cases h : (decide (Val P) && decide (Val Q) && decide (Val R)) with
      | false => rfl
      | true =>
        simp only [Bool.and_eq_true, decide_eq_true_eq] at h
        exact absurd ⟨h.1.1, h.1.2, h.2⟩ hall
    have ht : ∀ p ∈ [((.v 0 : Ex), decide (Val P)), (.v 1, decide (Val Q)), (.v 2, decide (Val R))], Small256 (pe K p.1) ∧ (p.2 = true → Val (pe K p.1)) ∧ (p.2 = false → ¬ Val (pe K p.1)) := by
      intro p hp
      simp only [List.mem_cons, List.mem_nil_iff, or_false] at hp
      rcases hp with rfl | rfl | rfl <;> simp only [pe_v, s0, s1, s2]
      · exact ⟨hP, fun h => of_decide_eq_true h, fun h => of_decide_eq_false h⟩
      · exact ⟨hQ, fun h => of_decide_eq_true h, fun h => of_decide_eq_false h⟩
      · exact ⟨hR, fun h => of_decide_eq_true h, fun h => of_decide_eq_false h⟩
    have r0 := mkP_vr K (e := .v 0) (by rw [pe_v, s0]; exact hP)
    have r1 := mkP_vr K (e := .v 1) (by rw [pe_v, s1]; exact hQ)
    have r2 := mkP_vr K (e := .v 2) (by rw [pe_v, s2]; exact hR)
    rw [pe_v, s0] at r0
    rw [pe_v, s1] at r1
    rw [pe_v, s2] at r2
    exact run_true K (conT2_ok K ht) (fi := fiOf Try.f10) (by kernel_rfl) (by kernel_rfl) (xs := [pt P, pt Q, pt R])
      (fun ρ => by letI := K.gl; exact .cons _ _ _ _ (r0 ρ) (.cons _ _ _ _ (r1 ρ) (.cons _ _ _ _ (r2 ρ) .nil))) (groupN_run K _ _ _ hb) w
end Go.Proofs.Ytmpjigghgedjbaa
namespace Go.Proofs.Ytmpjigghgedjbaa
open Go Go.V
def bitsN (i : Nat) : Nat := if i % 2 = 0 then 26 else 25
theorem bitsN_le (i : Nat) : 25 ≤ bitsN i ∧ bitsN i ≤ 26 := by unfold bitsN; split <;> omega
theorem pow_bits (i : Nat) : 2 ^ bitsN i = 67108864 ∨ 2 ^ bitsN i = 33554432 := by unfold bitsN; split <;> simp
def gd (ws : List Nat) (i : Nat) : Nat := ws.getD i 0
abbrev I1 (x : Nat) : Value := .int .i64 (x : Int)
def wL (ws : List Nat) : List Value := ws.map I1
abbrev tenV (ws : List Nat) : Value := .agg (wL ws).toArray
theorem wL_at {ws : List Nat} {i : Nat} (h : i < ws.length) : (wL ws)[i]? = some (I1 (gd ws i)) := by
  unfold wL gd
  rw [List.getElem?_map, List.getElem?_eq_getElem h, List.getD_eq_getElem?_getD, List.getElem?_eq_getElem h]
  rfl
theorem wL_set (ws : List Nat) (i x : Nat) : (wL ws).set i (I1 x) = wL (ws.set i x) := by unfold wL; rw [List.map_set]
theorem wL_len (ws : List Nat) : (wL ws).length = ws.length := by unfold wL; simp
theorem wL_zero : wL [0, 0, 0, 0, 0, 0, 0, 0, 0, 0] = [I1 0, I1 0, I1 0, I1 0, I1 0, I1 0, I1 0, I1 0, I1 0, I1 0] := rfl
attribute [irreducible] wL
theorem gd_set {ws : List Nat} {i : Nat} (h : i < ws.length) (j x : Nat) : gd (ws.set i x) j = if j = i then x else gd ws j := by
  unfold gd
  rw [List.getD_eq_getElem?_getD, List.getD_eq_getElem?_getD, List.getElem?_set]
  by_cases hj : i = j
  · subst hj; simp [h]
  · rw [if_neg hj, if_neg (fun e => hj e.symm)]
def cstep (i : Nat) (ws : List Nat) : List Nat :=
  let c := gd ws i / 2 ^ bitsN i
  let ws1 := ws.set i (gd ws i - c * 2 ^ bitsN i)
  if i = 9 then ws1.set 0 (gd ws1 0 + 19 * c) else ws1.set (i + 1) (gd ws1 (i + 1) + c)
def cfrom : Nat → List Nat → List Nat
  | 0, ws => ws
  | k + 1, ws => cfrom k (cstep (9 - k) ws)
def carryL (ws : List Nat) : List Nat := cfrom 10 ws
theorem cfrom_succ {i : Nat} (h : i < 10) (ws : List Nat) : cfrom (10 - i) ws = cfrom (10 - (i + 1)) (cstep i ws) := by
  rw [show 10 - i = (9 - i) + 1 by omega, cfrom, show 9 - (9 - i) = i by omega, show 10 - (i + 1) = 9 - i by omega]
theorem divmod (a b : Nat) (hb : 0 < b) : ∃ c r, a / b = c ∧ a - c * b = r ∧ a = b * c + r ∧ r < b := by
  refine ⟨a / b, a - a / b * b, rfl, rfl, ?_, ?_⟩
  · have := Nat.div_mul_le_self a b
    rw [Nat.mul_comm b]; omega
  · have h1 := Nat.div_add_mod a b
    have h2 := Nat.mod_lt a hb
    rw [Nat.mul_comm] at h1; omega
theorem ten {ws : List Nat} (h : ws.length = 10) : ∃ w0 w1 w2 w3 w4 w5 w6 w7 w8 w9, ws = [w0, w1, w2, w3, w4, w5, w6, w7, w8, w9] := by
  match ws, h with
  | [a, b, c, d, e, f, g, i, j, k], _ => exact ⟨_, _, _, _, _, _, _, _, _, _, rfl⟩
theorem carry_spec (w0 w1 w2 w3 w4 w5 w6 w7 w8 w9 : Nat) : ∃ c0 c1 c2 c3 c4 c5 c6 c7 c8 c9 r0 r1 r2 r3 r4 r5 r6 r7 r8 r9,
    carryL [w0, w1, w2, w3, w4, w5, w6, w7, w8, w9] = [r0 + 19 * c9, r1, r2, r3, r4, r5, r6, r7, r8, r9] ∧
    (w0 = 67108864 * c0 + r0 ∧ w1 + c0 = 33554432 * c1 + r1 ∧ w2 + c1 = 67108864 * c2 + r2 ∧ w3 + c2 = 33554432 * c3 + r3 ∧ w4 + c3 = 67108864 * c4 + r4 ∧ w5 + c4 = 33554432 * c5 + r5 ∧ w6 + c5 = 67108864 * c6 + r6 ∧ w7 + c6 = 33554432 * c7 + r7 ∧ w8 + c7 = 67108864 * c8 + r8 ∧ w9 + c8 = 33554432 * c9 + r9) ∧
    (r0 < 67108864 ∧ r1 < 33554432 ∧ r2 < 67108864 ∧ r3 < 33554432 ∧ r4 < 67108864 ∧ r5 < 33554432 ∧ r6 < 67108864 ∧ r7 < 33554432 ∧ r8 < 67108864 ∧ r9 < 33554432) := by
  obtain ⟨c0, r0, d0, m0, e0, l0⟩ := divmod w0 67108864 (by decide)
  obtain ⟨c1, r1, d1, m1, e1, l1⟩ := divmod (w1 + c0) 33554432 (by decide)
  obtain ⟨c2, r2, d2, m2, e2, l2⟩ := divmod (w2 + c1) 67108864 (by decide)
  obtain ⟨c3, r3, d3, m3, e3, l3⟩ := divmod (w3 + c2) 33554432 (by decide)
  obtain ⟨c4, r4, d4, m4, e4, l4⟩ := divmod (w4 + c3) 67108864 (by decide)
  obtain ⟨c5, r5, d5, m5, e5, l5⟩ := divmod (w5 + c4) 33554432 (by decide)
  obtain ⟨c6, r6, d6, m6, e6, l6⟩ := divmod (w6 + c5) 67108864 (by decide)
  obtain ⟨c7, r7, d7, m7, e7, l7⟩ := divmod (w7 + c6) 33554432 (by decide)
  obtain ⟨c8, r8, d8, m8, e8, l8⟩ := divmod (w8 + c7) 67108864 (by decide)
  obtain ⟨c9, r9, d9, m9, e9, l9⟩ := divmod (w9 + c8) 33554432 (by decide)
  refine ⟨c0, c1, c2, c3, c4, c5, c6, c7, c8, c9, r0, r1, r2, r3, r4, r5, r6, r7, r8, r9, ?_, ⟨e0, e1, e2, e3, e4, e5, e6, e7, e8, e9⟩, ⟨l0, l1, l2, l3, l4, l5, l6, l7, l8, l9⟩⟩
  have s0 : cstep 0 [w0, w1, w2, w3, w4, w5, w6, w7, w8, w9] = [r0, w1 + c0, w2, w3, w4, w5, w6, w7, w8, w9] := by rw [← m0, ← d0]; rfl
  have s1 : cstep 1 [r0, w1 + c0, w2, w3, w4, w5, w6, w7, w8, w9] = [r0, r1, w2 + c1, w3, w4, w5, w6, w7, w8, w9] := by rw [← m1, ← d1]; rfl
  have s2 : cstep 2 [r0, r1, w2 + c1, w3, w4, w5, w6, w7, w8, w9] = [r0, r1, r2, w3 + c2, w4, w5, w6, w7, w8, w9] := by rw [← m2, ← d2]; rfl
  have s3 : cstep 3 [r0, r1, r2, w3 + c2, w4, w5, w6, w7, w8, w9] = [r0, r1, r2, r3, w4 + c3, w5, w6, w7, w8, w9] := by rw [← m3, ← d3]; rfl
  have s4 : cstep 4 [r0, r1, r2, r3, w4 + c3, w5, w6, w7, w8, w9] = [r0, r1, r2, r3, r4, w5 + c4, w6, w7, w8, w9] := by rw [← m4, ← d4]; rfl
  have s5 : cstep 5 [r0, r1, r2, r3, r4, w5 + c4, w6, w7, w8, w9] = [r0, r1, r2, r3, r4, r5, w6 + c5, w7, w8, w9] := by rw [← m5, ← d5]; rfl
  have s6 : cstep 6 [r0, r1, r2, r3, r4, r5, w6 + c5, w7, w8, w9] = [r0, r1, r2, r3, r4, r5, r6, w7 + c6, w8, w9] := by rw [← m6, ← d6]; rfl
  have s7 : cstep 7 [r0, r1, r2, r3, r4, r5, r6, w7 + c6, w8, w9] = [r0, r1, r2, r3, r4, r5, r6, r7, w8 + c7, w9] := by rw [← m7, ← d7]; rfl
  have s8 : cstep 8 [r0, r1, r2, r3, r4, r5, r6, r7, w8 + c7, w9] = [r0, r1, r2, r3, r4, r5, r6, r7, r8, w9 + c8] := by rw [← m8, ← d8]; rfl
  have s9 : cstep 9 [r0, r1, r2, r3, r4, r5, r6, r7, r8, w9 + c8] = [r0 + 19 * c9, r1, r2, r3, r4, r5, r6, r7, r8, r9] := by rw [← m9, ← d9]; rfl
  show cfrom 10 _ = _
  unfold cfrom; rw [s0]
  unfold cfrom; rw [s1]
  unfold cfrom; rw [s2]
  unfold cfrom; rw [s3]
  unfold cfrom; rw [s4]
  unfold cfrom; rw [s5]
  unfold cfrom; rw [s6]
  unfold cfrom; rw [s7]
  unfold cfrom; rw [s8]
  unfold cfrom; rw [s9]
  rfl
attribute [irreducible] carryL cfrom cstep
def V10 : List Nat → Nat
  | [w0, w1, w2, w3, w4, w5, w6, w7, w8, w9] => w0 + 67108864 * w1 + 2251799813685248 * w2 + 151115727451828646838272 * w3 + 5070602400912917605986812821504 * w4 + 340282366920938463463374607431768211456 * w5 + 11417981541647679048466287755595961091061972992 * w6 + 766247770432944429179173513575154591809369561091801088 * w7 + 25711008708143844408671393477458601640355247900524685364822016 * w8 + 1725436586697640946858688965569256363112777243042596638790631055949824 * w9
  | _ => 0
def Good : List Nat → Prop
  | [w0, w1, w2, w3, w4, w5, w6, w7, w8, w9] => w0 < 67109120 ∧ w1 < 33554432 ∧ w2 < 67108864 ∧ w3 < 33554432 ∧ w4 < 67108864 ∧ w5 < 33554432 ∧ w6 < 67108864 ∧ w7 < 33554432 ∧ w8 < 67108864 ∧ w9 < 33554432
  | _ => False
theorem Good.len {ws : List Nat} (h : Good ws) : ws.length = 10 := by
  unfold Good at h
  split at h
  · rfl
  · exact h.elim
theorem Good.gd {ws : List Nat} (h : Good ws) (i : Nat) : gd ws i < 67109120 := by
  obtain ⟨w0, w1, w2, w3, w4, w5, w6, w7, w8, w9, rfl⟩ := ten h.len
  unfold Good at h
  unfold Go.Proofs.Ytmpjigghgedjbaa.gd
  rcases i with _ | _ | _ | _ | _ | _ | _ | _ | _ | _ | i <;> simp <;> omega
theorem kb {w c b c' r B K : Nat} (h : w + c = b * c' + r) (hw : w < B) (hc : c ≤ K) (hB : B + K ≤ b * (K + 1)) : c' ≤ K := by
  have h1 : b * c' < b * (K + 1) := by omega
  have := Nat.lt_of_mul_lt_mul_left h1
  omega
theorem carry_len {ws : List Nat} (h : ws.length = 10) : (carryL ws).length = 10 := by
  obtain ⟨w0, w1, w2, w3, w4, w5, w6, w7, w8, w9, rfl⟩ := ten h
  obtain ⟨c0, c1, c2, c3, c4, c5, c6, c7, c8, c9, r0, r1, r2, r3, r4, r5, r6, r7, r8, r9, e, _⟩ := carry_spec w0 w1 w2 w3 w4 w5 w6 w7 w8 w9
  rw [e]; rfl
set_option maxHeartbeats 2000000 in
theorem carry_val {ws : List Nat} (h : ws.length = 10) : V10 (carryL ws) % p25519 = V10 ws % p25519 := by
  obtain ⟨w0, w1, w2, w3, w4, w5, w6, w7, w8, w9, rfl⟩ := ten h
  obtain ⟨c0, c1, c2, c3, c4, c5, c6, c7, c8, c9, r0, r1, r2, r3, r4, r5, r6, r7, r8, r9, e, ⟨e0, e1, e2, e3, e4, e5, e6, e7, e8, e9⟩, _⟩ := carry_spec w0 w1 w2 w3 w4 w5 w6 w7 w8 w9
  rw [e]
  have : V10 [w0, w1, w2, w3, w4, w5, w6, w7, w8, w9] = V10 [r0 + 19 * c9, r1, r2, r3, r4, r5, r6, r7, r8, r9] + p25519 * c9 := by
    simp only [V10]; unfold p25519; omega
  rw [this, Nat.add_mul_mod_self_left]
theorem carry_good {ws : List Nat} (h : ws.length = 10) (hb : ∀ i, gd ws i < 268435456) : Good (carryL ws) := by
  obtain ⟨w0, w1, w2, w3, w4, w5, w6, w7, w8, w9, rfl⟩ := ten h
  obtain ⟨c0, c1, c2, c3, c4, c5, c6, c7, c8, c9, r0, r1, r2, r3, r4, r5, r6, r7, r8, r9, e, ⟨e0, e1, e2, e3, e4, e5, e6, e7, e8, e9⟩, l0, l1, l2, l3, l4, l5, l6, l7, l8, l9⟩ := carry_spec w0 w1 w2 w3 w4 w5 w6 w7 w8 w9
  rw [e]
  have b0 : w0 < 268435456 := hb 0
  have b1 : w1 < 268435456 := hb 1
  have b2 : w2 < 268435456 := hb 2
  have b3 : w3 < 268435456 := hb 3
  have b4 : w4 < 268435456 := hb 4
  have b5 : w5 < 268435456 := hb 5
  have b6 : w6 < 268435456 := hb 6
  have b7 : w7 < 268435456 := hb 7
  have b8 : w8 < 268435456 := hb 8
  have b9 : w9 < 268435456 := hb 9
  have k0 : c0 ≤ 8 := kb (c := 0) (B := 268435456) e0 b0 (by decide) (by decide)
  have k1 : c1 ≤ 8 := kb e1 b1 k0 (by decide)
  have k2 : c2 ≤ 8 := kb e2 b2 k1 (by decide)
  have k3 : c3 ≤ 8 := kb e3 b3 k2 (by decide)
  have k4 : c4 ≤ 8 := kb e4 b4 k3 (by decide)
  have k5 : c5 ≤ 8 := kb e5 b5 k4 (by decide)
  have k6 : c6 ≤ 8 := kb e6 b6 k5 (by decide)
  have k7 : c7 ≤ 8 := kb e7 b7 k6 (by decide)
  have k8 : c8 ≤ 8 := kb e8 b8 k7 (by decide)
  have k9 : c9 ≤ 8 := kb e9 b9 k8 (by decide)
  clear e0 e1 e2 e3 e4 e5 e6 e7 e8 e9
  unfold Good
  refine ⟨by omega, l1, l2, l3, l4, l5, l6, l7, l8, l9⟩
theorem carry2_good {ws : List Nat} (h : ws.length = 10) (hb : ∀ i, gd ws i < 2305843009213693952) : (∀ i, gd (carryL ws) i < 4398046511104) ∧ Good (carryL (carryL ws)) := by
  obtain ⟨w0, w1, w2, w3, w4, w5, w6, w7, w8, w9, rfl⟩ := ten h
  obtain ⟨c0, c1, c2, c3, c4, c5, c6, c7, c8, c9, r0, r1, r2, r3, r4, r5, r6, r7, r8, r9, e, ⟨e0, e1, e2, e3, e4, e5, e6, e7, e8, e9⟩, l0, l1, l2, l3, l4, l5, l6, l7, l8, l9⟩ := carry_spec w0 w1 w2 w3 w4 w5 w6 w7 w8 w9
  rw [e]
  have b0 : w0 < 2305843009213693952 := hb 0
  have b1 : w1 < 2305843009213693952 := hb 1
  have b2 : w2 < 2305843009213693952 := hb 2
  have b3 : w3 < 2305843009213693952 := hb 3
  have b4 : w4 < 2305843009213693952 := hb 4
  have b5 : w5 < 2305843009213693952 := hb 5
  have b6 : w6 < 2305843009213693952 := hb 6
  have b7 : w7 < 2305843009213693952 := hb 7
  have b8 : w8 < 2305843009213693952 := hb 8
  have b9 : w9 < 2305843009213693952 := hb 9
  have k0 : c0 ≤ 137438953472 := kb (c := 0) (B := 2305843009213693952) e0 b0 (by decide) (by decide)
  have k1 : c1 ≤ 137438953472 := kb e1 b1 k0 (by decide)
  have k2 : c2 ≤ 137438953472 := kb e2 b2 k1 (by decide)
  have k3 : c3 ≤ 137438953472 := kb e3 b3 k2 (by decide)
  have k4 : c4 ≤ 137438953472 := kb e4 b4 k3 (by decide)
  have k5 : c5 ≤ 137438953472 := kb e5 b5 k4 (by decide)
  have k6 : c6 ≤ 137438953472 := kb e6 b6 k5 (by decide)
  have k7 : c7 ≤ 137438953472 := kb e7 b7 k6 (by decide)
  have k8 : c8 ≤ 137438953472 := kb e8 b8 k7 (by decide)
  have k9 : c9 ≤ 137438953472 := kb e9 b9 k8 (by decide)
  generalize hx : r0 + 19 * c9 = x
  have hx2 : x < 4398046511104 := by omega
  clear e0 e1 e2 e3 e4 e5 e6 e7 e8 e9 hx
  constructor
  · intro i
    unfold gd
    rcases i with _ | _ | _ | _ | _ | _ | _ | _ | _ | _ | i <;> simp <;> omega
  · obtain ⟨d0, d1, d2, d3, d4, d5, d6, d7, d8, d9, s0, s1, s2, s3, s4, s5, s6, s7, s8, s9, e', ⟨f0, f1, f2, f3, f4, f5, f6, f7, f8, f9⟩, m0, m1, m2, m3, m4, m5, m6, m7, m8, m9⟩ := carry_spec x r1 r2 r3 r4 r5 r6 r7 r8 r9
    rw [e']
    have q0 : d0 ≤ 65536 := by clear f1 f2 f3 f4 f5 f6 f7 f8 f9; omega
    have q1 : d1 ≤ 1 := by clear f2 f3 f4 f5 f6 f7 f8 f9; omega
    have q2 : d2 ≤ 1 := kb f2 l2 q1 (by decide)
    have q3 : d3 ≤ 1 := kb f3 l3 q2 (by decide)
    have q4 : d4 ≤ 1 := kb f4 l4 q3 (by decide)
    have q5 : d5 ≤ 1 := kb f5 l5 q4 (by decide)
    have q6 : d6 ≤ 1 := kb f6 l6 q5 (by decide)
    have q7 : d7 ≤ 1 := kb f7 l7 q6 (by decide)
    have q8 : d8 ≤ 1 := kb f8 l8 q7 (by decide)
    have q9 : d9 ≤ 1 := kb f9 l9 q8 (by decide)
    unfold Good
    clear f0 f1 f2 f3 f4 f5 f6 f7 f8 f9
    refine ⟨by omega, m1, m2, m3, m4, m5, m6, m7, m8, m9⟩
def Tight : List Nat → Prop
  | [w0, w1, w2, w3, w4, w5, w6, w7, w8, w9] => w0 < 67108864 ∧ w1 < 33554432 ∧ w2 < 67108864 ∧ w3 < 33554432 ∧ w4 < 67108864 ∧ w5 < 33554432 ∧ w6 < 67108864 ∧ w7 < 33554432 ∧ w8 < 67108864 ∧ w9 < 33554432
  | _ => False
theorem Tight.good {ws : List Nat} (h : Tight ws) : Good ws := by
  unfold Tight at h
  split at h
  · unfold Good; exact ⟨by omega, h.2⟩
  · exact h.elim
theorem kz {w c b c' r : Nat} (h : w + c = b * c' + r) (hc : c = 0) (hw : w < b) : c' = 0 := by
  subst hc
  rcases Nat.eq_zero_or_pos c' with h1 | h1
  · exact h1
  · have := Nat.mul_le_mul_left b h1
    omega
theorem carry_tight {ws : List Nat} (h : Tight ws) : carryL ws = ws := by
  obtain ⟨w0, w1, w2, w3, w4, w5, w6, w7, w8, w9, rfl⟩ := ten h.good.len
  unfold Tight at h
  obtain ⟨c0, c1, c2, c3, c4, c5, c6, c7, c8, c9, r0, r1, r2, r3, r4, r5, r6, r7, r8, r9, e, ⟨e0, e1, e2, e3, e4, e5, e6, e7, e8, e9⟩, l0, l1, l2, l3, l4, l5, l6, l7, l8, l9⟩ := carry_spec w0 w1 w2 w3 w4 w5 w6 w7 w8 w9
  obtain ⟨h0, h1, h2, h3, h4, h5, h6, h7, h8, h9⟩ := h
  have k0 : c0 = 0 := kz (c := 0) e0 rfl h0
  have k1 : c1 = 0 := kz e1 k0 h1
  have k2 : c2 = 0 := kz e2 k1 h2
  have k3 : c3 = 0 := kz e3 k2 h3
  have k4 : c4 = 0 := kz e4 k3 h4
  have k5 : c5 = 0 := kz e5 k4 h5
  have k6 : c6 = 0 := kz e6 k5 h6
  have k7 : c7 = 0 := kz e7 k6 h7
  have k8 : c8 = 0 := kz e8 k7 h8
  have k9 : c9 = 0 := kz e9 k8 h9
  subst k0 k1 k2 k3 k4 k5 k6 k7 k8 k9
  rw [e]
  simp only [List.cons.injEq, and_true]
  refine ⟨by omega, by omega, by omega, by omega, by omega, by omega, by omega, by omega, by omega, by omega⟩
theorem good_tight {ws : List Nat} (h : Good ws) : Tight (carryL ws) := by
  obtain ⟨w0, w1, w2, w3, w4, w5, w6, w7, w8, w9, rfl⟩ := ten h.len
  unfold Good at h
  obtain ⟨c0, c1, c2, c3, c4, c5, c6, c7, c8, c9, r0, r1, r2, r3, r4, r5, r6, r7, r8, r9, e, ⟨e0, e1, e2, e3, e4, e5, e6, e7, e8, e9⟩, l0, l1, l2, l3, l4, l5, l6, l7, l8, l9⟩ := carry_spec w0 w1 w2 w3 w4 w5 w6 w7 w8 w9
  obtain ⟨h0, h1, h2, h3, h4, h5, h6, h7, h8, h9⟩ := h
  rw [e]
  unfold Tight
  refine ⟨?_, l1, l2, l3, l4, l5, l6, l7, l8, l9⟩
  rcases Nat.eq_zero_or_pos c0 with k | k
  · have k1 : c1 = 0 := kz e1 k h1
    have k2 : c2 = 0 := kz e2 k1 h2
    have k3 : c3 = 0 := kz e3 k2 h3
    have k4 : c4 = 0 := kz e4 k3 h4
    have k5 : c5 = 0 := kz e5 k4 h5
    have k6 : c6 = 0 := kz e6 k5 h6
    have k7 : c7 = 0 := kz e7 k6 h7
    have k8 : c8 = 0 := kz e8 k7 h8
    have k9 : c9 = 0 := kz e9 k8 h9
    subst k1 k2 k3 k4 k5 k6 k7 k8 k9
    subst k
    clear e1 e2 e3 e4 e5 e6 e7 e8 e9
    omega
  · have q0 : c0 ≤ 1 := by clear e1 e2 e3 e4 e5 e6 e7 e8 e9; omega
    have q1 : c1 ≤ 1 := kb e1 h1 q0 (by decide)
    have q2 : c2 ≤ 1 := kb e2 h2 q1 (by decide)
    have q3 : c3 ≤ 1 := kb e3 h3 q2 (by decide)
    have q4 : c4 ≤ 1 := kb e4 h4 q3 (by decide)
    have q5 : c5 ≤ 1 := kb e5 h5 q4 (by decide)
    have q6 : c6 ≤ 1 := kb e6 h6 q5 (by decide)
    have q7 : c7 ≤ 1 := kb e7 h7 q6 (by decide)
    have q8 : c8 ≤ 1 := kb e8 h8 q7 (by decide)
    have q9 : c9 ≤ 1 := kb e9 h9 q8 (by decide)
    clear e1 e2 e3 e4 e5 e6 e7 e8 e9
    omega
theorem carry4 {ws : List Nat} (h : Good ws) : Tight (carryL (carryL (carryL (carryL ws)))) ∧ V10 (carryL (carryL (carryL (carryL ws)))) % p25519 = V10 ws % p25519 := by
  have h1 := good_tight h
  rw [carry_tight h1, carry_tight h1, carry_tight h1]
  exact ⟨h1, carry_val h.len⟩
theorem tight_lt {ws : List Nat} (h : Tight ws) : V10 ws < 57896044618658097711785492504343953926634992332820282019728792003956564819968 := by
  obtain ⟨w0, w1, w2, w3, w4, w5, w6, w7, w8, w9, rfl⟩ := ten h.good.len
  unfold Tight at h
  simp only [V10]
  omega
end Go.Proofs.Ytmpjigghgedjbaa
namespace Go.Proofs.Ytmpjigghgedjbaa
open Go Go.V
theorem numL_len (N : Nat) : (numL N).length = 32 := rfl
theorem numL_ext {l : List Value} {N : Nat} (hl : l.length = 32) (h : ∀ i, i < 32 → l[i]? = some (B1 (byteN N i))) : l = numL N := by
  refine List.ext_getElem? fun i => ?_
  rcases Nat.lt_or_ge i 32 with hi | hi
  · rw [h i hi, numL_at hi]
  · rw [List.getElem?_eq_none (by omega), List.getElem?_eq_none (by rw [numL_len]; exact hi)]
theorem numL_set {N M t : Nat} {x : Nat} (ht : t < 32) (hx : x = byteN M t) (h : ∀ i, i < 32 → i ≠ t → byteN M i = byteN N i) : (numL N).set t (B1 x) = numL M := by
  refine numL_ext (by simp [numL_len]) fun i hi => ?_
  rw [List.getElem?_set]
  by_cases hit : t = i
  · subst hit; rw [if_pos rfl, if_pos (by rw [numL_len]; exact hi), hx]
  · rw [if_neg hit, numL_at hi, h i hi (fun e => hit e.symm)]
theorem two_256 (i : Nat) : 256 ^ i = 2 ^ (8 * i) := by rw [Nat.pow_mul]
theorem byte_bit (N t : Nat) : byteN N (t / 8) / 2 ^ (t % 8) % 2 = N / 2 ^ t % 2 := by
  have e : 2 ^ t = 256 ^ (t / 8) * 2 ^ (t % 8) := by rw [two_256, ← Nat.pow_add, Nat.div_add_mod]
  rw [e, ← Nat.div_div_eq_div_mul]
  unfold byteN
  generalize N / 256 ^ (t / 8) = M
  have h8 : t % 8 < 8 := Nat.mod_lt _ (by decide)
  generalize t % 8 = r at *
  obtain rfl | rfl | rfl | rfl | rfl | rfl | rfl | rfl : r = 0 ∨ r = 1 ∨ r = 2 ∨ r = 3 ∨ r = 4 ∨ r = 5 ∨ r = 6 ∨ r = 7 := by omega
  all_goals (simp only [Nat.reducePow]; omega)
theorem pow8_lt {r : Nat} (h : r < 8) : 2 ^ r ≤ 128 := by
  obtain rfl | rfl | rfl | rfl | rfl | rfl | rfl | rfl : r = 0 ∨ r = 1 ∨ r = 2 ∨ r = 3 ∨ r = 4 ∨ r = 5 ∨ r = 6 ∨ r = 7 := by omega
  all_goals decide
theorem put_small {N t : Nat} (hN : N < 2 ^ t) : byteN N (t / 8) < 2 ^ (t % 8) := by
  have e : 2 ^ t = 256 ^ (t / 8) * 2 ^ (t % 8) := by rw [two_256, ← Nat.pow_add, Nat.div_add_mod]
  have h1 : N / 256 ^ (t / 8) < 2 ^ (t % 8) := Nat.div_lt_of_lt_mul (by rw [← e]; exact hN)
  have h2 := pow8_lt (Nat.mod_lt t (show 0 < 8 by decide))
  unfold byteN
  rw [Nat.mod_eq_of_lt (by omega)]
  exact h1
theorem put_bit {N t : Nat} (ht : t < 256) (hN : N < 2 ^ t) : (numL N).set (t / 8) (B1 (byteN N (t / 8) + 2 ^ (t % 8))) = numL (N + 2 ^ t) := by
  have e : 2 ^ t = 256 ^ (t / 8) * 2 ^ (t % 8) := by rw [two_256, ← Nat.pow_add, Nat.div_add_mod]
  have hs := put_small hN
  have h2 := pow8_lt (Nat.mod_lt t (show 0 < 8 by decide))
  refine numL_set (by omega) ?_ ?_
  · unfold byteN at hs ⊢
    have h1 : N / 256 ^ (t / 8) < 2 ^ (t % 8) := Nat.div_lt_of_lt_mul (by rw [← e]; exact hN)
    have h3 : (N + 2 ^ t) / 256 ^ (t / 8) = N / 256 ^ (t / 8) + 2 ^ (t % 8) := by rw [e, Nat.add_mul_div_left _ _ (Nat.pow_pos (by decide))]
    rw [h3, Nat.mod_eq_of_lt (show N / 256 ^ (t / 8) < 256 by omega), Nat.mod_eq_of_lt (show N / 256 ^ (t / 8) + 2 ^ (t % 8) < 256 by omega)]
  · intro i _ hne
    unfold byteN
    rcases Nat.lt_or_ge i (t / 8) with hi | hi
    · have e2 : 2 ^ t = 256 ^ i * (256 * 2 ^ (t - 8 * i - 8)) := by
        rw [two_256, show 256 = 2 ^ 8 from rfl, ← Nat.pow_add, ← Nat.pow_add]; congr 1; omega
      rw [e2, Nat.add_mul_div_left _ _ (Nat.pow_pos (by decide)), Nat.add_mul_mod_self_left]
    · have h3 : N + 2 ^ t < 256 ^ i := by
        have : 2 ^ (t + 1) ≤ 256 ^ i := by rw [two_256]; exact Nat.pow_le_pow_right (by decide) (by omega)
        rw [Nat.pow_succ] at this
        omega
      rw [Nat.div_eq_of_lt h3, Nat.div_eq_of_lt (by omega)]
def offN (i : Nat) : Nat := (51 * i + 1) / 2
theorem offN_succ (i : Nat) : offN (i + 1) = offN i + bitsN i := by unfold offN bitsN; split <;> omega
def lenN (i : Nat) : Nat := if i = 9 then 26 else bitsN i
theorem lenN_le {i : Nat} (h : i < 10) : offN i + lenN i ≤ 256 := by
  unfold lenN offN bitsN; split <;> (try split) <;> omega
def opL (N i k : Nat) : List Nat := (List.range 10).map fun j => if j < i then N / 2 ^ offN j % 2 ^ lenN j else if j = i then N / 2 ^ offN i % 2 ^ k else 0
theorem opL_len (N i k : Nat) : (opL N i k).length = 10 := by unfold opL; simp
theorem opL_gd (N i k j : Nat) (hj : j < 10) : gd (opL N i k) j = if j < i then N / 2 ^ offN j % 2 ^ lenN j else if j = i then N / 2 ^ offN i % 2 ^ k else 0 := by
  unfold gd opL
  rw [List.getD_eq_getElem?_getD, List.getElem?_map, List.getElem?_range hj]
  rfl
theorem ten_ext {l l' : List Nat} (h : l.length = 10) (h' : l'.length = 10) (hg : ∀ i, i < 10 → gd l i = gd l' i) : l = l' := by
  refine List.ext_getElem? fun i => ?_
  rcases Nat.lt_or_ge i 10 with hi | hi
  · have := hg i hi
    unfold gd at this
    rw [List.getD_eq_getElem?_getD, List.getD_eq_getElem?_getD, List.getElem?_eq_getElem (by omega), List.getElem?_eq_getElem (by omega)] at this
    rw [List.getElem?_eq_getElem (by omega), List.getElem?_eq_getElem (by omega)]
    exact congrArg some this
  · rw [List.getElem?_eq_none (by omega), List.getElem?_eq_none (by omega)]
theorem opL_next (N i : Nat) (hi : i < 10) : opL N i (lenN i) = opL N (i + 1) 0 := by
  refine ten_ext (opL_len _ _ _) (opL_len _ _ _) fun j hj => ?_
  rw [opL_gd _ _ _ _ hj, opL_gd _ _ _ _ hj]
  rcases Nat.lt_trichotomy j i with h | h | h
  · rw [if_pos h, if_pos (by omega)]
  · subst h; rw [if_neg (by omega), if_pos rfl, if_pos (by omega)]
  · rw [if_neg (by omega), if_neg (by omega), if_neg (by omega)]
    split
    · rw [Nat.pow_zero, Nat.mod_one]
    · rfl
theorem opL_start (N : Nat) : opL N 0 0 = [0, 0, 0, 0, 0, 0, 0, 0, 0, 0] := by
  refine ten_ext (opL_len _ _ _) rfl fun j hj => ?_
  rw [opL_gd _ _ _ _ hj, if_neg (by omega)]
  have : gd [0, 0, 0, 0, 0, 0, 0, 0, 0, 0] j = 0 := by
    obtain rfl | rfl | rfl | rfl | rfl | rfl | rfl | rfl | rfl | rfl : j = 0 ∨ j = 1 ∨ j = 2 ∨ j = 3 ∨ j = 4 ∨ j = 5 ∨ j = 6 ∨ j = 7 ∨ j = 8 ∨ j = 9 := by omega
    all_goals rfl
  rw [this]
  split
  · rw [Nat.pow_zero, Nat.mod_one]
  · rfl
theorem opL_at (N i k : Nat) (hi : i < 10) : gd (opL N i k) i = N / 2 ^ offN i % 2 ^ k := by rw [opL_gd _ _ _ _ hi, if_neg (by omega), if_pos rfl]
theorem mod_bit (X k : Nat) : X % 2 ^ (k + 1) = X % 2 ^ k + X / 2 ^ k % 2 * 2 ^ k := by
  rw [Nat.pow_succ, Nat.mod_mul, Nat.mul_comm]
theorem opL_bit (N i k b : Nat) (hi : i < 10) (hb : N / 2 ^ (offN i + k) % 2 = b) : (opL N i k).set i (gd (opL N i k) i + b * 2 ^ k) = opL N i (k + 1) := by
  refine ten_ext (by simp [opL_len]) (opL_len _ _ _) fun j hj => ?_
  rw [gd_set (by rw [opL_len]; exact hi)]
  split
  · rename_i h; subst h
    rw [opL_at _ _ _ hj, opL_at _ _ _ hj, mod_bit, Nat.div_div_eq_div_mul, ← Nat.pow_add, hb]
  · rename_i h
    rw [opL_gd _ _ _ _ hj, opL_gd _ _ _ _ hj, if_neg h, if_neg h]
theorem opL_zero (N i k : Nat) (hi : i < 10) (hb : N / 2 ^ (offN i + k) % 2 = 0) : opL N i k = opL N i (k + 1) := by
  have := opL_bit N i k 0 hi hb
  rw [← this]
  refine ten_ext (opL_len _ _ _) (by simp [opL_len]) fun j hj => ?_
  rw [gd_set (by rw [opL_len]; exact hi)]
  split
  · rename_i h; subst h; omega
  · rfl
theorem opL_val {N : Nat} (hN : N < 115792089237316195423570985008687907853269984665640564039457584007913129639936) : V10 (opL N 10 0) = N := by
  have e : opL N 10 0 = [N / 1 % 67108864, N / 67108864 % 33554432, N / 2251799813685248 % 67108864, N / 151115727451828646838272 % 33554432, N / 5070602400912917605986812821504 % 67108864, N / 340282366920938463463374607431768211456 % 33554432, N / 11417981541647679048466287755595961091061972992 % 67108864, N / 766247770432944429179173513575154591809369561091801088 % 33554432, N / 25711008708143844408671393477458601640355247900524685364822016 % 67108864, N / 1725436586697640946858688965569256363112777243042596638790631055949824 % 67108864] := rfl
  rw [e]
  simp only [V10]
  rw [show 1725436586697640946858688965569256363112777243042596638790631055949824 = 25711008708143844408671393477458601640355247900524685364822016 * 67108864 from rfl, ← Nat.div_div_eq_div_mul,
    show 25711008708143844408671393477458601640355247900524685364822016 = 766247770432944429179173513575154591809369561091801088 * 33554432 from rfl, ← Nat.div_div_eq_div_mul,
    show 766247770432944429179173513575154591809369561091801088 = 11417981541647679048466287755595961091061972992 * 67108864 from rfl, ← Nat.div_div_eq_div_mul,
    show 11417981541647679048466287755595961091061972992 = 340282366920938463463374607431768211456 * 33554432 from rfl, ← Nat.div_div_eq_div_mul,
    show 340282366920938463463374607431768211456 = 5070602400912917605986812821504 * 67108864 from rfl, ← Nat.div_div_eq_div_mul,
    show 5070602400912917605986812821504 = 151115727451828646838272 * 33554432 from rfl, ← Nat.div_div_eq_div_mul,
    show 151115727451828646838272 = 2251799813685248 * 67108864 from rfl, ← Nat.div_div_eq_div_mul,
    show 2251799813685248 = 67108864 * 33554432 from rfl, ← Nat.div_div_eq_div_mul]
  obtain ⟨n1, h1⟩ : ∃ n, n = N / 67108864 := ⟨_, rfl⟩
  rw [← h1]
  obtain ⟨n2, h2⟩ : ∃ n, n = n1 / 33554432 := ⟨_, rfl⟩
  rw [← h2]
  obtain ⟨n3, h3⟩ : ∃ n, n = n2 / 67108864 := ⟨_, rfl⟩
  rw [← h3]
  obtain ⟨n4, h4⟩ : ∃ n, n = n3 / 33554432 := ⟨_, rfl⟩
  rw [← h4]
  obtain ⟨n5, h5⟩ : ∃ n, n = n4 / 67108864 := ⟨_, rfl⟩
  rw [← h5]
  obtain ⟨n6, h6⟩ : ∃ n, n = n5 / 33554432 := ⟨_, rfl⟩
  rw [← h6]
  obtain ⟨n7, h7⟩ : ∃ n, n = n6 / 67108864 := ⟨_, rfl⟩
  rw [← h7]
  obtain ⟨n8, h8⟩ : ∃ n, n = n7 / 33554432 := ⟨_, rfl⟩
  rw [← h8]
  obtain ⟨n9, h9⟩ : ∃ n, n = n8 / 67108864 := ⟨_, rfl⟩
  rw [← h9]
  omega
theorem opL_good (N : Nat) : Good (carryL (opL N 10 0)) := by
  refine carry_good (opL_len _ _ _) fun i => ?_
  rcases Nat.lt_or_ge i 10 with hi | hi
  · rw [opL_gd _ _ _ _ hi, if_pos hi]
    have h1 : lenN i ≤ 26 := by unfold lenN bitsN; split <;> (try split) <;> omega
    have h2 : 2 ^ lenN i ≤ 2 ^ 26 := Nat.pow_le_pow_right (by decide) h1
    have h3 := Nat.mod_lt (N / 2 ^ offN i) (Nat.two_pow_pos (lenN i))
    omega
  · unfold gd
    rw [List.getD_eq_getElem?_getD, List.getElem?_eq_none (by rw [opL_len]; exact hi)]
    decide
end Go.Proofs.Ytmpjigghgedjbaa
