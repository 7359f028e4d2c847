import Derived.Test.YtmpjigghgedjbaaDg
import Derived.Test.YtmpjigghgedjbaaDi
set_option linter.unusedSimpArgs false
set_option linter.unusedVariables false
set_option linter.unusedSectionVars false
set_option maxHeartbeats 16000000
set_option maxRecDepth 100000
namespace Go.V
open Go Go.RowKit
class Len (cs : List Value) (m : outParam Nat) : Prop where
 h : cs.length = m ∧ cs.all Value.oneCell' = true
section
variable {P : Program} {n : Nat} {e : Env} {w : World} {Q : Post} {ops : Array Oper} {rest : List Oper} {d : Nat} {ty : TypeId} {pos : String} {aft : Array Edge}
theorem TL.storeL {t bt : TypeId} {m b : Nat} {x y : Operand} {vs cs : List Value} [ht : Agg P t m] (hx : val e x = some (.pointer (some ⟨b, 0, none⟩))) (hy : val e y = some (.agg vs.toArray)) (hb : Blk w b bt cs) [hl : Len vs m] (hc : cs.length = m)
  (k : ∀ w', Upd b w w' → Blk w' b bt vs → w'.heap.size = w.heap.size → TL P n ops rest e w' Q) : TL P n ops (⟨none, .store t x y, ty, pos, aft, none⟩ :: rest) e w Q :=
 TL.storeWh hx hy hb (by rw [hl.h.1]; exact Nat.beq_refl m) (by rw [hc]; exact Nat.beq_refl m) hl.h.2 k
instance (cs : List Value) (m : Nat) [h : Len cs m] : Cut cs 0 m cs := ⟨by rw [List.drop_zero, List.take_of_length_le (Nat.le_of_eq h.h.1)], h.h.1⟩
theorem load_len {t bt : TypeId} {m b : Nat} {cs : List Value} [ht : Agg P t m] (hb : Blk w b bt cs) [hl : Len cs m] : (loadVar t ⟨b, 0, none⟩).run P w = .ok (.agg cs.toArray) w := load_whole hb (by rw [hl.h.1]; exact Nat.beq_refl m)
end
end Go.V
namespace Go.Proofs.Ytmpjigghgedjbaa
open Go Go.RowKit Go.V Go.N
class W10 (ws : List Nat) : Prop where
 h : ws.length = 10
instance (xs ys : List Nat) : W10 (timesW xs ys) := ⟨by rw [show timesW xs ys = carryL (carryL (allW xs ys 10)) by unfold timesW; rfl]; exact carry_len (carry_len (allW_len _ _ _))⟩
instance (ws : List Nat) [h : W10 ws] : Len (wL ws) 10 := ⟨by rw [wL_len]; exact h.h, wL_one ws⟩
def farL (p : FW) : List Value := wL p.x ++ (wL p.y ++ wL p.z)
abbrev farV (p : FW) : Value := .agg (farL p).toArray
class WF (p : FW) : Prop where
 x : p.x.length = 10
 y : p.y.length = 10
 z : p.z.length = 10
theorem FP.wf {p : FW} {P : Pt} (h : FP p P) : WF p := ⟨h.goods.1.len, h.goods.2.1.len, h.goods.2.2.len⟩
instance (xs ys zs : List Nat) [hx : W10 xs] [hy : W10 ys] [hz : W10 zs] : WF ⟨xs, ys, zs⟩ := ⟨hx.h, hy.h, hz.h⟩
instance (p : FW) [h : WF p] : Len (farL p) 30 := ⟨by unfold farL; simp only [List.length_append, wL_len, h.x, h.y, h.z], by unfold farL; simp only [List.all_append, wL_one, Bool.and_true]⟩
instance (p : FW) [h : WF p] : Cut (farL p) 0 10 (wL p.x) := ⟨by unfold farL; rw [List.drop_zero, List.take_append_of_le_length (by rw [wL_len, h.x]; exact Nat.le_refl _), List.take_of_length_le (by rw [wL_len, h.x]; exact Nat.le_refl _)], by rw [wL_len]; exact h.x⟩
instance (p : FW) [h : WF p] : Cut (farL p) 10 10 (wL p.y) := ⟨by
 unfold farL
 rw [show (10 : Nat) = (wL p.x).length by rw [wL_len, h.x], List.drop_left, show (wL p.x).length = (wL p.y).length by rw [wL_len, wL_len, h.x, h.y], List.take_left], by rw [wL_len]; exact h.y⟩
instance (p : FW) [h : WF p] : Cut (farL p) 20 10 (wL p.z) := ⟨by
 unfold farL
 rw [← List.append_assoc, show (20 : Nat) = (wL p.x ++ wL p.y).length by rw [List.length_append, wL_len, wL_len, h.x, h.y], List.drop_left, List.take_of_length_le (by rw [wL_len, h.z]; exact Nat.le_refl _)], by rw [wL_len]; exact h.z⟩
instance (ds : List Nat) (p q : FW) : WF (plusF ds p q) := ⟨(inferInstance : W10 (timesW _ _)).h, (inferInstance : W10 (timesW _ _)).h, (inferInstance : W10 (timesW _ _)).h⟩
theorem far_fill (xs ys zs : List Nat) [hx : W10 xs] [hy : W10 ys] [hz : W10 zs] : fillV [(0, 10), (10, 10), (20, 10)] (Value.agg #[.int .i64 0, .int .i64 0, .int .i64 0, .int .i64 0, .int .i64 0, .int .i64 0, .int .i64 0, .int .i64 0, .int .i64 0, .int .i64 0, .int .i64 0, .int .i64 0, .int .i64 0, .int .i64 0, .int .i64 0, .int .i64 0, .int .i64 0, .int .i64 0, .int .i64 0, .int .i64 0, .int .i64 0, .int .i64 0, .int .i64 0, .int .i64 0, .int .i64 0, .int .i64 0, .int .i64 0, .int .i64 0, .int .i64 0, .int .i64 0]).cells.toList [(0, tenV xs), (1, tenV ys), (2, tenV zs)] = some (farL ⟨xs, ys, zs⟩) := by
 obtain ⟨_, _, _, _, _, _, _, _, _, _, rfl⟩ := ten hx.h
 obtain ⟨_, _, _, _, _, _, _, _, _, _, rfl⟩ := ten hy.h
 obtain ⟨_, _, _, _, _, _, _, _, _, _, rfl⟩ := ten hz.h
 unfold farL tenV
 kernel_rfl
section
variable {n : Nat} {e : Env} {w : World} {Q : Post} {ops : Array Oper} {rest : List Oper} {d : Nat} {ty : TypeId} {pos : String} {aft : Array Edge} {parts : List (Nat × Operand)}
theorem build_far {xs ys zs : List Nat} [hx : W10 xs] [hy : W10 ys] [hz : W10 zs] (hp : partsV (val e) parts = some [(0, tenV xs), (1, tenV ys), (2, tenV zs)]) (hd : Nat.blt d n = true)
  (k : TL Try.prog n ops rest ((d, farV ⟨xs, ys, zs⟩) :: e) w Q) : TL Try.prog n ops (⟨some d, .build 91 parts.toArray, ty, pos, aft, none⟩ :: rest) e w Q := TL.build hp (far_fill xs ys zs) hd k
theorem TL.isLoadT (t : TypeId) {x : Operand} {d : Option Nat} (h : TL Try.prog n ops (⟨d, .load t x, ty, pos, aft, none⟩ :: rest) e w Q) : TL Try.prog n ops (⟨d, .load t x, ty, pos, aft, none⟩ :: rest) e w Q := h
theorem TL.isStoreT (t : TypeId) {x y : Operand} {d : Option Nat} (h : TL Try.prog n ops (⟨d, .store t x y, ty, pos, aft, none⟩ :: rest) e w Q) : TL Try.prog n ops (⟨d, .store t x y, ty, pos, aft, none⟩ :: rest) e w Q := h
end
end Go.Proofs.Ytmpjigghgedjbaa
namespace Go.Proofs.Ytmpjigghgedjbaa
open Go Go.RowKit Go.V Go.N
def z30 : List Value := [.int .i64 0, .int .i64 0, .int .i64 0, .int .i64 0, .int .i64 0, .int .i64 0, .int .i64 0, .int .i64 0, .int .i64 0, .int .i64 0, .int .i64 0, .int .i64 0, .int .i64 0, .int .i64 0, .int .i64 0, .int .i64 0, .int .i64 0, .int .i64 0, .int .i64 0, .int .i64 0, .int .i64 0, .int .i64 0, .int .i64 0, .int .i64 0, .int .i64 0, .int .i64 0, .int .i64 0, .int .i64 0, .int .i64 0, .int .i64 0]
def z10 : List Value := [.int .i64 0, .int .i64 0, .int .i64 0, .int .i64 0, .int .i64 0, .int .i64 0, .int .i64 0, .int .i64 0, .int .i64 0, .int .i64 0]
theorem plus_good {xs ys : List Nat} (hx : Good xs) (hy : Good ys) : Good (plusW xs ys) := (rep_plus (A := V10 xs) (B := V10 ys) ⟨hx, rfl⟩ ⟨hy, rfl⟩).1
theorem minus_good {xs ys : List Nat} (hx : Good xs) (hy : Good ys) : Good (minusW xs ys) := (rep_minus (A := V10 xs) (B := V10 ys) ⟨hx, rfl⟩ ⟨hy, rfl⟩).1
instance (xs ys : List Nat) : W10 (plusW xs ys) := ⟨by rw [show plusW xs ys = carryL (addW xs ys) by unfold plusW; rfl]; exact carry_len (by unfold addW; exact mapL_len _)⟩
instance (xs ys : List Nat) : W10 (minusW xs ys) := ⟨by rw [show minusW xs ys = carryL (subW xs ys) by unfold minusW; rfl]; exact carry_len (by unfold subW; exact mapL_len _)⟩
theorem plus_f (ds : List Nat) (p q : FW) (hd : Good ds) (px : Good p.x) (py : Good p.y) (pz : Good p.z) (qx : Good q.x) (qy : Good q.y) (qz : Good q.z) (w : World) :
  Calls Try.prog 90 #[tenV ds, farV p, farV q] w (Ret fun v w' => v = farV (plusF ds p q) ∧ Grow w w') := by
 refine V.calls (args := [_, _, _]) Try.func90 rfl Try.ntmps90 rfl rfl ?_
 have wd : W10 ds := ⟨hd.len⟩
 have wp : WF p := ⟨px.len, py.len, pz.len⟩
 have wq : WF q := ⟨qx.len, qy.len, qz.len⟩
 obtain ⟨a, ha⟩ : ∃ z, z = timesW p.z q.z := ⟨_, rfl⟩
 have ga : Good a := by rw [ha]; exact times_good pz qz
 have wa : W10 a := ⟨ga.len⟩
 obtain ⟨b, hb⟩ : ∃ z, z = timesW a a := ⟨_, rfl⟩
 have gb : Good b := by rw [hb]; exact times_good ga ga
 have wb : W10 b := ⟨gb.len⟩
 obtain ⟨c, hc⟩ : ∃ z, z = timesW p.x q.x := ⟨_, rfl⟩
 have gc : Good c := by rw [hc]; exact times_good px qx
 have wc : W10 c := ⟨gc.len⟩
 obtain ⟨ee, hee⟩ : ∃ z, z = timesW p.y q.y := ⟨_, rfl⟩
 have gee : Good ee := by rw [hee]; exact times_good py qy
 have wee : W10 ee := ⟨gee.len⟩
 have gce := times_good gc gee
 obtain ⟨m, hm⟩ : ∃ z, z = timesW ds (timesW c ee) := ⟨_, rfl⟩
 have gm : Good m := by rw [hm]; exact times_good hd gce
 have wm : W10 m := ⟨gm.len⟩
 obtain ⟨f, hf⟩ : ∃ z, z = minusW b m := ⟨_, rfl⟩
 have gf : Good f := by rw [hf]; exact minus_good gb gm
 have wf : W10 f := ⟨gf.len⟩
 obtain ⟨g, hg⟩ : ∃ z, z = plusW b m := ⟨_, rfl⟩
 have gg : Good g := by rw [hg]; exact plus_good gb gm
 have wg : W10 g := ⟨gg.len⟩
 obtain ⟨bo, hbo⟩ : ∃ z, z = plusW c ee := ⟨_, rfl⟩
 have gbo : Good bo := by rw [hbo]; exact plus_good gc gee
 have wbo : W10 bo := ⟨gbo.len⟩
 have gp1 := plus_good px py
 have gp2 := plus_good qx qy
 have gpp := times_good gp1 gp2
 obtain ⟨cr, hcr⟩ : ∃ z, z = minusW (timesW (plusW p.x p.y) (plusW q.x q.y)) bo := ⟨_, rfl⟩
 have gcr : Good cr := by rw [hcr]; exact minus_good gpp gbo
 have wcr : W10 cr := ⟨gcr.len⟩
 have gfc := times_good gf gcr
 have ggb := times_good gg gbo
 have hres : plusF ds p q = ⟨timesW a (timesW f cr), timesW a (timesW g bo), timesW f g⟩ := by
  unfold plusF crossW
  simp only [← ha, ← hb, ← hc, ← hee, ← hm, ← hf, ← hg, ← hbo, ← hcr]
 rw [hres]
 clear hres
 refine T.cutAt 1 (fun e v => ∃ b3 b4 b5 b6, Sub [(3, .pointer (some ⟨b3, 0, none⟩)), (4, .pointer (some ⟨b4, 0, none⟩)), (5, .pointer (some ⟨b5, 0, none⟩)), (6, .pointer (some ⟨b6, 0, none⟩))] e ∧ Blk v b3 75 (wL ds) ∧ Blk v b4 91 (farL p) ∧ Blk v b5 91 (farL q) ∧ Blk v b6 91 (z30) ∧ w.heap.size ≤ b6 ∧ Grow w v) ?_ ?_
 rotate_left
 ·repeat (first | refine TL.nil ?_ | refine T.region ?_ | (refine TL.isBox ?_; (refine TL.boxA rfl rfl ?_; intro bk w' hg hbk hsz hsz')) | (refine TL.isAlloc ?_; (refine TL.alloc rfl rfl ?_; intro bk w' hg hbk hsz hsz')) | refine uptoQ_normal ?_ | refine upto_seq ?_ | refine upto_end ?_)
  rename_i b3 w3 g3 k3 s3 t3 b4 w4 g4 k4 s4 t4 b5 w5 g5 k5 s5 t5
  obtain ⟨b6, rfl⟩ : ∃ q, q = bk := ⟨_, rfl⟩
  have hw6 : w.heap.size ≤ b6 := by omega
  have hb6 : Blk w' b6 91 z30 := hbk
  exact ⟨b3, b4, b5, b6, ⟨rfl, rfl, rfl, rfl, trivial⟩, yB, yB, yB, hb6, hw6, yG⟩
 rintro ea wa ⟨b3, b4, b5, b6, hsub, m3, m4, m5, m6, hw6, hG⟩
 refine T.weaken (e' := [(3, _), (4, _), (5, _), (6, _)]) ?_ hsub
 clear hsub
 have l3 := m3.lt
 have l4 := m4.lt
 have l5 := m5.lt
 have l6 := m6.lt
 refine T.cutAt 1 (fun e v => ∃ b3 b4 b5 b6 b7, Sub [(3, .pointer (some ⟨b3, 0, none⟩)), (4, .pointer (some ⟨b4, 0, none⟩)), (5, .pointer (some ⟨b5, 0, none⟩)), (6, .pointer (some ⟨b6, 0, none⟩)), (7, .pointer (some ⟨b7, 0, none⟩))] e ∧ Blk v b3 75 (wL ds) ∧ Blk v b4 91 (farL p) ∧ Blk v b5 91 (farL q) ∧ Blk v b6 91 (z30) ∧ Blk v b7 75 (wL a) ∧ w.heap.size ≤ b6 ∧ Grow w v) ?_ ?_
 rotate_left
 ·repeat (first | (refine TL.isLoadT 75 ?_; refine TL.loadC rfl yB rfl ?_) | (refine TL.isStoreT 75 ?_; refine TL.storeL rfl rfl yB (by exact rfl) ?_; intro w' hu hbk hsz) | refine TL.fieldA0 rfl rfl ?_ | refine TL.nil ?_ | refine T.region ?_ | (refine TL.isAlloc ?_; (refine TL.alloc rfl rfl ?_; intro bk w' hg hbk hsz hsz')) | refine uptoQ_normal ?_ | refine upto_seq ?_ | refine upto_end ?_ | (refine TL.isFn 78 ?_; refine TL.call rfl (times_w _ _ (by assumption) (by assumption) _) rfl ?_; rintro _ _ ⟨rfl, hgc⟩))
  obtain ⟨b7, rfl⟩ : ∃ q, q = bk := ⟨_, rfl⟩
  have z7 : Blk w' b7 75 (wL a) := by rw [ha]; exact hbk
  exact ⟨b3, b4, b5, b6, b7, ⟨rfl, rfl, rfl, rfl, rfl, trivial⟩, yB, yB, yB, yB, z7, hw6, yG⟩
 clear m3 m4 m5 m6 hG l3 l4 l5 l6
 rintro er1 wr1 ⟨b3, b4, b5, b6, b7, hsub, m3, m4, m5, m6, m7, hw6, hG⟩
 refine T.weaken (e' := [(3, _), (4, _), (5, _), (6, _), (7, _)]) ?_ hsub
 clear hsub
 have l3 := m3.lt
 have l4 := m4.lt
 have l5 := m5.lt
 have l6 := m6.lt
 have l7 := m7.lt
 refine T.cutAt 1 (fun e v => ∃ b3 b4 b5 b6 b7 b8, Sub [(3, .pointer (some ⟨b3, 0, none⟩)), (4, .pointer (some ⟨b4, 0, none⟩)), (5, .pointer (some ⟨b5, 0, none⟩)), (6, .pointer (some ⟨b6, 0, none⟩)), (7, .pointer (some ⟨b7, 0, none⟩)), (8, .pointer (some ⟨b8, 0, none⟩))] e ∧ Blk v b3 75 (wL ds) ∧ Blk v b4 91 (farL p) ∧ Blk v b5 91 (farL q) ∧ Blk v b6 91 (z30) ∧ Blk v b7 75 (wL a) ∧ Blk v b8 75 (wL b) ∧ w.heap.size ≤ b6 ∧ Grow w v) ?_ ?_
 rotate_left
 ·repeat (first | (refine TL.isLoadT 75 ?_; refine TL.loadC rfl yB rfl ?_) | (refine TL.isStoreT 75 ?_; refine TL.storeL rfl rfl yB (by exact rfl) ?_; intro w' hu hbk hsz) | refine TL.nil ?_ | refine T.region ?_ | (refine TL.isAlloc ?_; (refine TL.alloc rfl rfl ?_; intro bk w' hg hbk hsz hsz')) | refine uptoQ_normal ?_ | refine upto_seq ?_ | refine upto_end ?_ | (refine TL.isFn 78 ?_; refine TL.call rfl (times_w _ _ (by assumption) (by assumption) _) rfl ?_; rintro _ _ ⟨rfl, hgc⟩))
  obtain ⟨b8, rfl⟩ : ∃ q, q = bk := ⟨_, rfl⟩
  have z8 : Blk w' b8 75 (wL b) := by rw [hb]; exact hbk
  exact ⟨b3, b4, b5, b6, b7, b8, ⟨rfl, rfl, rfl, rfl, rfl, rfl, trivial⟩, yB, yB, yB, yB, yB, z8, hw6, yG⟩
 clear m3 m4 m5 m6 m7 hG l3 l4 l5 l6 l7
 rintro er2 wr2 ⟨b3, b4, b5, b6, b7, b8, hsub, m3, m4, m5, m6, m7, m8, hw6, hG⟩
 refine T.weaken (e' := [(3, _), (4, _), (5, _), (6, _), (7, _), (8, _)]) ?_ hsub
 clear hsub
 have l3 := m3.lt
 have l4 := m4.lt
 have l5 := m5.lt
 have l6 := m6.lt
 have l7 := m7.lt
 have l8 := m8.lt
 refine T.cutAt 1 (fun e v => ∃ b3 b4 b5 b6 b7 b8 b9 b10, Sub [(3, .pointer (some ⟨b3, 0, none⟩)), (4, .pointer (some ⟨b4, 0, none⟩)), (5, .pointer (some ⟨b5, 0, none⟩)), (6, .pointer (some ⟨b6, 0, none⟩)), (7, .pointer (some ⟨b7, 0, none⟩)), (8, .pointer (some ⟨b8, 0, none⟩)), (9, .pointer (some ⟨b9, 0, none⟩)), (10, .pointer (some ⟨b10, 0, none⟩))] e ∧ Blk v b3 75 (wL ds) ∧ Blk v b4 91 (farL p) ∧ Blk v b5 91 (farL q) ∧ Blk v b6 91 (z30) ∧ Blk v b7 75 (wL a) ∧ Blk v b8 75 (wL b) ∧ Blk v b9 75 (wL c) ∧ Blk v b10 75 (wL ee) ∧ w.heap.size ≤ b6 ∧ Grow w v) ?_ ?_
 rotate_left
 ·refine upto_seq ?_
  (apply T.any 12 [is _, is _, is _, is _, is _, is _, is _, is _, is _, is _, newB 75 z10, newB 75 z10]; (· kernel_rfl); (· ((repeat' (first | exact allDo_end | refine allDo_cons ?_ ?_)); (iterate 10 (· ((refine does_mk0 rfl rfl rfl ?_); ( intro wq _ _ hgq; (repeat (refine need_cons rfl rfl ?_; intro vq hvq; try (obtain rfl := hvq))); (refine need_nil ?_)); (repeat (first | refine TL.loadC rfl yB rfl ?_ | refine TL.fieldA0 rfl rfl ?_ | refine TL.nil ?_ | (refine TL.isFn 78 ?_; refine TL.call rfl (times_w _ _ (by assumption) (by assumption) _) rfl ?_; rintro _ _ ⟨rfl, hgc⟩))); exact one_end rfl yG rfl))); (iterate 2 (· (refine does_mk0 rfl rfl rfl ?_); ( intro wq _ _ hgq; (repeat (refine need_cons rfl rfl ?_; intro vq hvq; try (obtain rfl := hvq))); (refine need_nil ?_)); (repeat (first | refine TL.nil ?_ | (refine TL.isAlloc ?_; (refine TL.alloc rfl rfl ?_; intro bk w' hg hbk hsz hsz')))); exact one_end rfl yG ⟨_, rfl, by omega, by omega, by assumption⟩)))); (rintro _ _ _ hgr hspan hdj; (repeat (refine need_cons rfl rfl ?_; intro vq hvq; try (obtain rfl := hvq))); (refine need_nil ?_)); obtain ⟨bn2, rfl, hl2, hh2, hnb2⟩ := hvq; obtain ⟨bn1, rfl, hl1, hh1, hnb1⟩ := hvq; (try simp only [Nat.reduceAdd] at hl1 hh1 hl2 hh2); have hd21 : bn2 ≠ bn1 := (by have hz := hdj 11 10 (by omega) (by omega) (by omega); omega); have hsp := hspan 10 (by omega); replace hl1 := Nat.le_trans hsp.1 hl1; replace hh1 := Nat.lt_of_lt_of_le hh1 hsp.2.2; clear hsp; have hsp := hspan 11 (by omega); replace hl2 := Nat.le_trans hsp.1 hl2; replace hh2 := Nat.lt_of_lt_of_le hh2 hsp.2.2; clear hsp; clear hspan hdj)
  obtain ⟨b9, rfl⟩ : ∃ q, q = bn1 := ⟨_, rfl⟩
  obtain ⟨b10, rfl⟩ : ∃ q, q = bn2 := ⟨_, rfl⟩
  repeat (first | (refine TL.isStoreT 75 ?_; refine TL.storeL rfl rfl yB (by exact rfl) ?_; intro w' hu hbk hsz) | refine TL.nil ?_ | refine uptoQ_normal ?_ | refine upto_end ?_)
  have z9 : Blk w' b9 75 (wL c) := by rw [hc]; exact yB
  have z10 : Blk w' b10 75 (wL ee) := by rw [hee]; exact yB
  exact ⟨b3, b4, b5, b6, b7, b8, b9, b10, ⟨rfl, rfl, rfl, rfl, rfl, rfl, rfl, rfl, trivial⟩, yB, yB, yB, yB, yB, yB, z9, z10, hw6, yG⟩
 clear m3 m4 m5 m6 m7 m8 hG l3 l4 l5 l6 l7 l8
 rintro er3 wr3 ⟨b3, b4, b5, b6, b7, b8, b9, b10, hsub, m3, m4, m5, m6, m7, m8, m9, m10, hw6, hG⟩
 refine T.weaken (e' := [(3, _), (4, _), (5, _), (6, _), (7, _), (8, _), (9, _), (10, _)]) ?_ hsub
 clear hsub
 have l3 := m3.lt
 have l4 := m4.lt
 have l5 := m5.lt
 have l6 := m6.lt
 have l7 := m7.lt
 have l8 := m8.lt
 have l9 := m9.lt
 have l10 := m10.lt
 refine T.cutAt 1 (fun e v => ∃ b4 b5 b6 b7 b8 b9 b10 b11, Sub [(4, .pointer (some ⟨b4, 0, none⟩)), (5, .pointer (some ⟨b5, 0, none⟩)), (6, .pointer (some ⟨b6, 0, none⟩)), (7, .pointer (some ⟨b7, 0, none⟩)), (8, .pointer (some ⟨b8, 0, none⟩)), (9, .pointer (some ⟨b9, 0, none⟩)), (10, .pointer (some ⟨b10, 0, none⟩)), (11, .pointer (some ⟨b11, 0, none⟩))] e ∧ Blk v b4 91 (farL p) ∧ Blk v b5 91 (farL q) ∧ Blk v b6 91 (z30) ∧ Blk v b7 75 (wL a) ∧ Blk v b8 75 (wL b) ∧ Blk v b9 75 (wL c) ∧ Blk v b10 75 (wL ee) ∧ Blk v b11 75 (wL m) ∧ w.heap.size ≤ b6 ∧ Grow w v) ?_ ?_
 rotate_left
 ·refine upto_seq ?_
  apply T.any 6 [is _, is _, is _, is _, is _, newB 75 z10]; (· kernel_rfl); (· ((repeat' (first | exact allDo_end | refine allDo_cons ?_ ?_)); (iterate 5 (· ((refine does_mk0 rfl rfl rfl ?_); ( intro wq _ _ hgq; (repeat (refine need_cons rfl rfl ?_; intro vq hvq; try (obtain rfl := hvq))); (refine need_nil ?_)); (repeat (first | refine TL.loadC rfl yB rfl ?_ | refine TL.nil ?_ | (refine TL.isFn 78 ?_; refine TL.call rfl (times_w _ _ (by assumption) (by assumption) _) rfl ?_; rintro _ _ ⟨rfl, hgc⟩))); exact one_end rfl yG rfl))); ((refine does_mk0 rfl rfl rfl ?_); ( intro wq _ _ hgq; (repeat (refine need_cons rfl rfl ?_; intro vq hvq; try (obtain rfl := hvq))); (refine need_nil ?_)); (repeat (first | refine TL.nil ?_ | (refine TL.isAlloc ?_; (refine TL.alloc rfl rfl ?_; intro bk w' hg hbk hsz hsz')))); exact one_end rfl yG ⟨_, rfl, by omega, by omega, by assumption⟩))); (rintro _ _ _ hgr hspan _; (repeat (refine need_cons rfl rfl ?_; intro vq hvq; try (obtain rfl := hvq))); (refine need_nil ?_); obtain ⟨bn, rfl, hn1, hn2, hnb⟩ := hvq; have hsp := hspan 5 (by omega); replace hn1 := Nat.le_trans hsp.1 hn1; replace hn2 := Nat.lt_of_lt_of_le hn2 hsp.2.2; clear hspan hsp)
  obtain ⟨b11, rfl⟩ : ∃ q, q = bn := ⟨_, rfl⟩
  repeat (first | (refine TL.isStoreT 75 ?_; refine TL.storeL rfl rfl yB (by exact rfl) ?_; intro w' hu hbk hsz) | refine TL.nil ?_ | refine uptoQ_normal ?_ | refine upto_end ?_)
  have z11 : Blk w' b11 75 (wL m) := by rw [hm]; exact hbk
  exact ⟨b4, b5, b6, b7, b8, b9, b10, b11, ⟨rfl, rfl, rfl, rfl, rfl, rfl, rfl, rfl, trivial⟩, yB, yB, yB, yB, yB, yB, yB, z11, hw6, yG⟩
 clear m3 m4 m5 m6 m7 m8 m9 m10 hG l3 l4 l5 l6 l7 l8 l9 l10
 rintro er4 wr4 ⟨b4, b5, b6, b7, b8, b9, b10, b11, hsub, m4, m5, m6, m7, m8, m9, m10, m11, hw6, hG⟩
 refine T.weaken (e' := [(4, _), (5, _), (6, _), (7, _), (8, _), (9, _), (10, _), (11, _)]) ?_ hsub
 clear hsub
 have l4 := m4.lt
 have l5 := m5.lt
 have l6 := m6.lt
 have l7 := m7.lt
 have l8 := m8.lt
 have l9 := m9.lt
 have l10 := m10.lt
 have l11 := m11.lt
 refine T.cutAt 1 (fun e v => ∃ b4 b5 b6 b7 b9 b10 b12 b13, Sub [(4, .pointer (some ⟨b4, 0, none⟩)), (5, .pointer (some ⟨b5, 0, none⟩)), (6, .pointer (some ⟨b6, 0, none⟩)), (7, .pointer (some ⟨b7, 0, none⟩)), (9, .pointer (some ⟨b9, 0, none⟩)), (10, .pointer (some ⟨b10, 0, none⟩)), (12, .pointer (some ⟨b12, 0, none⟩)), (13, .pointer (some ⟨b13, 0, none⟩))] e ∧ Blk v b4 91 (farL p) ∧ Blk v b5 91 (farL q) ∧ Blk v b6 91 (z30) ∧ Blk v b7 75 (wL a) ∧ Blk v b9 75 (wL c) ∧ Blk v b10 75 (wL ee) ∧ Blk v b12 75 (wL f) ∧ Blk v b13 75 (wL g) ∧ w.heap.size ≤ b6 ∧ Grow w v) ?_ ?_
 rotate_left
 ·refine upto_seq ?_
  (apply T.any 8 [is _, is _, is _, is _, is _, is _, newB 75 z10, newB 75 z10]; (· kernel_rfl); (· ((repeat' (first | exact allDo_end | refine allDo_cons ?_ ?_)); (iterate 6 (· ((refine does_mk0 rfl rfl rfl ?_); ( intro wq _ _ hgq; (repeat (refine need_cons rfl rfl ?_; intro vq hvq; try (obtain rfl := hvq))); (refine need_nil ?_)); (repeat (first | refine TL.loadC rfl yB rfl ?_ | refine TL.nil ?_ | (refine TL.isFn 76 ?_; refine TL.call rfl (plus_w _ _ (by assumption) (by assumption) _) rfl ?_; rintro _ _ ⟨rfl, hgc⟩) | (refine TL.isFn 77 ?_; refine TL.call rfl (minus_w _ _ (by assumption) (by assumption) _) rfl ?_; rintro _ _ ⟨rfl, hgc⟩))); exact one_end rfl yG rfl))); (iterate 2 (· (refine does_mk0 rfl rfl rfl ?_); ( intro wq _ _ hgq; (repeat (refine need_cons rfl rfl ?_; intro vq hvq; try (obtain rfl := hvq))); (refine need_nil ?_)); (repeat (first | refine TL.nil ?_ | (refine TL.isAlloc ?_; (refine TL.alloc rfl rfl ?_; intro bk w' hg hbk hsz hsz')))); exact one_end rfl yG ⟨_, rfl, by omega, by omega, by assumption⟩)))); (rintro _ _ _ hgr hspan hdj; (repeat (refine need_cons rfl rfl ?_; intro vq hvq; try (obtain rfl := hvq))); (refine need_nil ?_)); obtain ⟨bn2, rfl, hl2, hh2, hnb2⟩ := hvq; obtain ⟨bn1, rfl, hl1, hh1, hnb1⟩ := hvq; (try simp only [Nat.reduceAdd] at hl1 hh1 hl2 hh2); have hd21 : bn2 ≠ bn1 := (by have hz := hdj 7 6 (by omega) (by omega) (by omega); omega); have hsp := hspan 6 (by omega); replace hl1 := Nat.le_trans hsp.1 hl1; replace hh1 := Nat.lt_of_lt_of_le hh1 hsp.2.2; clear hsp; have hsp := hspan 7 (by omega); replace hl2 := Nat.le_trans hsp.1 hl2; replace hh2 := Nat.lt_of_lt_of_le hh2 hsp.2.2; clear hsp; clear hspan hdj)
  obtain ⟨b12, rfl⟩ : ∃ q, q = bn1 := ⟨_, rfl⟩
  obtain ⟨b13, rfl⟩ : ∃ q, q = bn2 := ⟨_, rfl⟩
  repeat (first | (refine TL.isStoreT 75 ?_; refine TL.storeL rfl rfl yB (by exact rfl) ?_; intro w' hu hbk hsz) | refine TL.nil ?_ | refine uptoQ_normal ?_ | refine upto_end ?_)
  have z12 : Blk w' b12 75 (wL f) := by rw [hf]; exact yB
  have z13 : Blk w' b13 75 (wL g) := by rw [hg]; exact yB
  exact ⟨b4, b5, b6, b7, b9, b10, b12, b13, ⟨rfl, rfl, rfl, rfl, rfl, rfl, rfl, rfl, trivial⟩, yB, yB, yB, yB, yB, yB, z12, z13, hw6, yG⟩
 clear m4 m5 m6 m7 m8 m9 m10 m11 hG l4 l5 l6 l7 l8 l9 l10 l11
 rintro er5 wr5 ⟨b4, b5, b6, b7, b9, b10, b12, b13, hsub, m4, m5, m6, m7, m9, m10, m12, m13, hw6, hG⟩
 refine T.weaken (e' := [(4, _), (5, _), (6, _), (7, _), (9, _), (10, _), (12, _), (13, _)]) ?_ hsub
 clear hsub
 have l4 := m4.lt
 have l5 := m5.lt
 have l6 := m6.lt
 have l7 := m7.lt
 have l9 := m9.lt
 have l10 := m10.lt
 have l12 := m12.lt
 have l13 := m13.lt
 refine T.cutAt 1 (fun e v => ∃ b4 b5 b6 b7 b12 b13 b14, Sub [(4, .pointer (some ⟨b4, 0, none⟩)), (5, .pointer (some ⟨b5, 0, none⟩)), (6, .pointer (some ⟨b6, 0, none⟩)), (7, .pointer (some ⟨b7, 0, none⟩)), (12, .pointer (some ⟨b12, 0, none⟩)), (13, .pointer (some ⟨b13, 0, none⟩)), (14, .pointer (some ⟨b14, 0, none⟩))] e ∧ Blk v b4 91 (farL p) ∧ Blk v b5 91 (farL q) ∧ Blk v b6 91 (z30) ∧ Blk v b7 75 (wL a) ∧ Blk v b12 75 (wL f) ∧ Blk v b13 75 (wL g) ∧ Blk v b14 75 (wL bo) ∧ w.heap.size ≤ b6 ∧ Grow w v) ?_ ?_
 rotate_left
 ·repeat (first | (refine TL.isLoadT 75 ?_; refine TL.loadC rfl yB rfl ?_) | (refine TL.isStoreT 75 ?_; refine TL.storeL rfl rfl yB (by exact rfl) ?_; intro w' hu hbk hsz) | refine TL.nil ?_ | refine T.region ?_ | (refine TL.isAlloc ?_; (refine TL.alloc rfl rfl ?_; intro bk w' hg hbk hsz hsz')) | refine uptoQ_normal ?_ | refine upto_seq ?_ | refine upto_end ?_ | (refine TL.isFn 76 ?_; refine TL.call rfl (plus_w _ _ (by assumption) (by assumption) _) rfl ?_; rintro _ _ ⟨rfl, hgc⟩))
  obtain ⟨b14, rfl⟩ : ∃ q, q = bk := ⟨_, rfl⟩
  have z14 : Blk w' b14 75 (wL bo) := by rw [hbo]; exact hbk
  exact ⟨b4, b5, b6, b7, b12, b13, b14, ⟨rfl, rfl, rfl, rfl, rfl, rfl, rfl, trivial⟩, yB, yB, yB, yB, yB, yB, z14, hw6, yG⟩
 clear m4 m5 m6 m7 m9 m10 m12 m13 hG l4 l5 l6 l7 l9 l10 l12 l13
 rintro er6 wr6 ⟨b4, b5, b6, b7, b12, b13, b14, hsub, m4, m5, m6, m7, m12, m13, m14, hw6, hG⟩
 refine T.weaken (e' := [(4, _), (5, _), (6, _), (7, _), (12, _), (13, _), (14, _)]) ?_ hsub
 clear hsub
 have l4 := m4.lt
 have l5 := m5.lt
 have l6 := m6.lt
 have l7 := m7.lt
 have l12 := m12.lt
 have l13 := m13.lt
 have l14 := m14.lt
 refine T.cutAt 1 (fun e v => ∃ b6 b7 b12 b13 b14 b15, Sub [(6, .pointer (some ⟨b6, 0, none⟩)), (7, .pointer (some ⟨b7, 0, none⟩)), (12, .pointer (some ⟨b12, 0, none⟩)), (13, .pointer (some ⟨b13, 0, none⟩)), (14, .pointer (some ⟨b14, 0, none⟩)), (15, .pointer (some ⟨b15, 0, none⟩))] e ∧ Blk v b6 91 (z30) ∧ Blk v b7 75 (wL a) ∧ Blk v b12 75 (wL f) ∧ Blk v b13 75 (wL g) ∧ Blk v b14 75 (wL bo) ∧ Blk v b15 75 (wL cr) ∧ w.heap.size ≤ b6 ∧ Grow w v) ?_ ?_
 rotate_left
 ·refine upto_seq ?_
  apply T.any 14 [is _, is _, is _, is _, is _, is _, is _, is _, is _, is _, is _, is _, is _, newB 75 z10]; (· kernel_rfl); (· ((repeat' (first | exact allDo_end | refine allDo_cons ?_ ?_)); (iterate 13 (· ((refine does_mk0 rfl rfl rfl ?_); ( intro wq _ _ hgq; (repeat (refine need_cons rfl rfl ?_; intro vq hvq; try (obtain rfl := hvq))); (refine need_nil ?_)); (repeat (first | refine TL.loadC rfl yB rfl ?_ | refine TL.fieldA0 rfl rfl ?_ | refine TL.nil ?_ | (refine TL.isFn 78 ?_; refine TL.call rfl (times_w _ _ (by assumption) (by assumption) _) rfl ?_; rintro _ _ ⟨rfl, hgc⟩) | (refine TL.isFn 76 ?_; refine TL.call rfl (plus_w _ _ (by assumption) (by assumption) _) rfl ?_; rintro _ _ ⟨rfl, hgc⟩) | (refine TL.isFn 77 ?_; refine TL.call rfl (minus_w _ _ (by assumption) (by assumption) _) rfl ?_; rintro _ _ ⟨rfl, hgc⟩))); exact one_end rfl yG rfl))); ((refine does_mk0 rfl rfl rfl ?_); ( intro wq _ _ hgq; (repeat (refine need_cons rfl rfl ?_; intro vq hvq; try (obtain rfl := hvq))); (refine need_nil ?_)); (repeat (first | refine TL.nil ?_ | (refine TL.isAlloc ?_; (refine TL.alloc rfl rfl ?_; intro bk w' hg hbk hsz hsz')))); exact one_end rfl yG ⟨_, rfl, by omega, by omega, by assumption⟩))); (rintro _ _ _ hgr hspan _; (repeat (refine need_cons rfl rfl ?_; intro vq hvq; try (obtain rfl := hvq))); (refine need_nil ?_); obtain ⟨bn, rfl, hn1, hn2, hnb⟩ := hvq; have hsp := hspan 13 (by omega); replace hn1 := Nat.le_trans hsp.1 hn1; replace hn2 := Nat.lt_of_lt_of_le hn2 hsp.2.2; clear hspan hsp)
  obtain ⟨b15, rfl⟩ : ∃ q, q = bn := ⟨_, rfl⟩
  repeat (first | (refine TL.isStoreT 75 ?_; refine TL.storeL rfl rfl yB (by exact rfl) ?_; intro w' hu hbk hsz) | refine TL.nil ?_ | refine uptoQ_normal ?_ | refine upto_end ?_)
  have z15 : Blk w' b15 75 (wL cr) := by rw [hcr]; exact hbk
  exact ⟨b6, b7, b12, b13, b14, b15, ⟨rfl, rfl, rfl, rfl, rfl, rfl, trivial⟩, yB, yB, yB, yB, yB, z15, hw6, yG⟩
 clear m4 m5 m6 m7 m12 m13 m14 hG l4 l5 l6 l7 l12 l13 l14
 rintro er7 wr7 ⟨b6, b7, b12, b13, b14, b15, hsub, m6, m7, m12, m13, m14, m15, hw6, hG⟩
 refine T.weaken (e' := [(6, _), (7, _), (12, _), (13, _), (14, _), (15, _)]) ?_ hsub
 clear hsub
 have l6 := m6.lt
 have l7 := m7.lt
 have l12 := m12.lt
 have l13 := m13.lt
 have l14 := m14.lt
 have l15 := m15.lt
 refine T.seq ?_
 apply T.any 14 [is _, is _, is _, is _, is _, is _, is _, is _, is _, is _, is _, is _, is _, is _]; (· kernel_rfl); (· ((repeat' (first | exact allDo_end | refine allDo_cons ?_ ?_)); (iterate 14 (· ((refine does_mk0 rfl rfl rfl ?_); ( intro wq _ _ hgq; (repeat (refine need_cons rfl rfl ?_; intro vq hvq; try (obtain rfl := hvq))); (refine need_nil ?_)); (repeat (first | refine TL.loadC rfl yB rfl ?_ | refine TL.nil ?_ | (refine TL.isFn 78 ?_; refine TL.call rfl (times_w _ _ (by assumption) (by assumption) _) rfl ?_; rintro _ _ ⟨rfl, hgc⟩) | refine build_far rfl rfl ?_)); exact one_end rfl yG rfl))))); (rintro _ _ _ hgr _ _; (repeat (refine need_cons rfl rfl ?_; intro vq hvq; try (obtain rfl := hvq))); (refine need_nil ?_))
 repeat (first | (refine TL.isStoreT 91 ?_; refine TL.storeL rfl rfl yB (by exact rfl) ?_; intro w' hu hbk hsz) | refine TL.nil ?_ | refine thenQ_normal ?_ | refine T.ret ?_)
 exact retC rfl (load_len (by assumption)) ⟨_, rfl, rfl, yG⟩
end Go.Proofs.Ytmpjigghgedjbaa
namespace Go.Proofs.Ytmpjigghgedjbaa
open Go Go.RowKit Go.V Go.N
instance (N : Nat) : W10 (opnW N) := ⟨by unfold opnW; exact carry_len (opL_len _ _ _)⟩
def awayF (P : Pt) : FW := ⟨opnW P.1, opnW P.2, opnW 1⟩
theorem fp_away {P : Pt} (h1 : P.1 < 115792089237316195423570985008687907853269984665640564039457584007913129639936) (h2 : P.2 < 115792089237316195423570985008687907853269984665640564039457584007913129639936) : FP (awayF P) P :=
 ⟨_, _, _, irep_nat (rep_opn h1), irep_nat (rep_opn h2), irep_nat (rep_opn (by decide)), proj_of P⟩
instance (P : Pt) : WF (awayF P) := ⟨(inferInstance : W10 (opnW _)).h, (inferInstance : W10 (opnW _)).h, (inferInstance : W10 (opnW _)).h⟩
theorem away_f (P : Pt) (w : World) : Calls Try.prog 91 #[pt P] w (Ret fun v w' => v = farV (awayF P) ∧ Grow w w') := by
 refine V.calls (args := [_]) Try.func91 rfl Try.ntmps91 rfl rfl ?_
 repeat (first | refine TL.nil ?_ | refine thenQ_normal ?_ | refine T.seq ?_ | refine T.region ?_ | (refine TL.isBox ?_; (refine TL.boxA rfl rfl ?_; intro bk w' hg hbk hsz hsz')) | (refine TL.isAlloc ?_; (refine TL.alloc rfl rfl ?_; intro bk w' hg hbk hsz hsz')))
 apply T.any 9 [is _, is _, is _, is _, is _, is _, is _, is _, is _]; (· kernel_rfl); (· ((repeat' (first | exact allDo_end | refine allDo_cons ?_ ?_)); (iterate 9 (· ((refine does_mk0 rfl rfl rfl ?_); ( intro wq _ _ hgq; (repeat (refine need_cons rfl rfl ?_; intro vq hvq; try (obtain rfl := hvq))); (refine need_nil ?_)); (repeat (first | refine TL.loadC rfl yB rfl ?_ | refine TL.fieldA0 rfl rfl ?_ | refine TL.nil ?_ | (refine TL.isFn 75 ?_; refine TL.call rfl (opn_w _ _) rfl ?_; rintro _ _ ⟨rfl, hgc⟩) | (refine TL.isFn 29 ?_; refine TL.call rfl (of_r 1 (by decide) _) rfl ?_; rintro _ _ ⟨rfl, hgc⟩) | refine build_far rfl rfl ?_)); exact one_end rfl yG rfl))))); (rintro _ _ _ hgr _ _; (repeat (refine need_cons rfl rfl ?_; intro vq hvq; try (obtain rfl := hvq))); (refine need_nil ?_))
 repeat (first | (refine TL.isStoreT 91 ?_; refine TL.storeL rfl rfl yB (by exact rfl) ?_; intro w' hu hbk hsz) | refine TL.nil ?_ | refine thenQ_normal ?_ | refine T.ret ?_)
 exact retC rfl (load_len (by assumption)) ⟨_, rfl, rfl, yG⟩
theorem near_f (p : FW) (P : Pt) (hP : Val P) (h : FP p P) (w : World) : Calls Try.prog 89 #[farV p] w (Ret fun v w' => v = pt P ∧ Grow w w') := by
 refine V.calls (args := [_]) Try.func89 rfl Try.ntmps89 rfl rfl ?_
 have wp : WF p := h.wf
 obtain ⟨a, b, c, ⟨A, h1, k1⟩, ⟨B, h2, k2⟩, ⟨C, h3, k3⟩, hp⟩ := h
 obtain ⟨p1, p2⟩ := near_pt hP (proj_Z hp k1 k2 k3)
 have hC : C % p25519 < 115792089237316195423570985008687907853269984665640564039457584007913129639936 := mod_big _
 have hA : A % p25519 < 115792089237316195423570985008687907853269984665640564039457584007913129639936 := mod_big _
 have hB : B % p25519 < 115792089237316195423570985008687907853269984665640564039457584007913129639936 := mod_big _
 have qi := inv_r (C % p25519) hC
 have hib := pw_big (C % p25519) 57896044618658097711785492504343953926634992332820282019728792003956564819947
 generalize pw (C % p25519) 57896044618658097711785492504343953926634992332820282019728792003956564819947 = iv at *
 unfold fmul at p1 p2
 have k1' : P.1 < 115792089237316195423570985008687907853269984665640564039457584007913129639936 := Nat.lt_trans hP.1 (by decide)
 repeat (first | (refine TL.isLoadT 75 ?_; refine TL.loadC rfl yB rfl ?_) | refine TL.fieldA0 rfl rfl ?_ | refine TL.nil ?_ | refine thenQ_normal ?_ | refine T.seq ?_ | refine T.region ?_ | (refine TL.isStore ?_; (refine TL.storeWh rfl rfl yB (by exact rfl) (by exact rfl) (by exact rfl) ?_; intro w' hu hbk hsz)) | (refine TL.isBox ?_; (refine TL.boxA rfl rfl ?_; intro bk w' hg hbk hsz hsz')) | (refine TL.isAlloc ?_; first | (refine alloc_pt rfl ?_; intro bk w' hg hbk hsz hsz') | (refine TL.alloc rfl rfl ?_; intro bk w' hg hbk hsz hsz')) | (refine TL.isFn 74 ?_; refine TL.call rfl (close_r (by assumption) _) rfl ?_; rintro _ _ ⟨rfl, hgc⟩) | (refine TL.isFn 37 ?_; refine TL.call rfl (qi _) rfl ?_; rintro _ _ ⟨rfl, hgc⟩))
 obtain ⟨b3, rfl⟩ : ∃ q, q = bk := ⟨_, rfl⟩
 apply T.any 11 [is _, is _, is _, is _, is _, is _, is _, is _, is _, is _, is _]; (· kernel_rfl); (· ((repeat' (first | exact allDo_end | refine allDo_cons ?_ ?_)); (iterate 11 (· ((refine does_mk0 rfl rfl rfl ?_); ( intro wq _ _ hgq; (repeat (refine need_cons rfl rfl ?_; intro vq hvq; try (obtain rfl := hvq))); (refine need_nil ?_)); (repeat (first | (refine TL.isLoad ?_; first | refine TL.loadW rfl yB (by exact rfl) rfl ?_ | refine TL.loadC rfl yB rfl ?_) | refine TL.fieldA0 rfl rfl ?_ | refine TL.nil ?_ | (refine TL.isBuild ?_; refine build_pt rfl rfl ?_) | (refine TL.isFn 74 ?_; refine TL.call rfl (close_r (by assumption) _) rfl ?_; rintro _ _ ⟨rfl, hgc⟩) | (refine TL.isFn 35 ?_; refine TL.call rfl (mul_r _ _ (by assumption) (by assumption) _) rfl ?_; rintro _ _ ⟨rfl, hgc⟩))); exact one_end rfl yG rfl))))); (rintro _ _ _ hgr _ _; (repeat (refine need_cons rfl rfl ?_; intro vq hvq; try (obtain rfl := hvq))); (refine need_nil ?_))
 rw [p1, p2]
 repeat (first | refine TL.nil ?_ | refine thenQ_normal ?_ | (refine TL.isStore ?_; (refine TL.storeWh rfl rfl yB (by exact rfl) (by exact rfl) (by exact rfl) ?_; intro w' hu hbk hsz)) | refine T.ret ?_)
 exact retC rfl (load_whole (by assumption) rfl) ⟨_, rfl, rfl, yG⟩
end Go.Proofs.Ytmpjigghgedjbaa
