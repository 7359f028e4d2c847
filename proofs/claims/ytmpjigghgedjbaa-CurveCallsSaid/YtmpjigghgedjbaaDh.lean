import Derived.Test.YtmpjigghgedjbaaDf
set_option linter.unusedSimpArgs false
set_option linter.unusedVariables false
set_option linter.unusedSectionVars false
set_option maxHeartbeats 16000000
set_option maxRecDepth 100000
namespace Go.V
open Go Go.RowKit
class Cut (cs : List Value) (o m : Nat) (vs : outParam (List Value)) : Prop where
 h : (cs.drop o).take m = vs ∧ vs.length = m
class Put (cs : List Value) (o : Nat) (vs : List Value) (cs' : outParam (List Value)) : Prop where
 h : putAt cs o vs = cs' ∧ o + vs.length ≤ cs.length ∧ vs.all Value.oneCell' = true
section
variable {P : Program} {n : Nat} {e : Env} {w : World} {Q : Post} {ops : Array Oper} {rest : List Oper} {d : Nat} {ty : TypeId} {pos : String} {aft : Array Edge}
theorem TL.loadC {t bt : TypeId} {m b o : Nat} {x : Operand} {cs vs : List Value} [ht : Agg P t m] (hx : val e x = some (.pointer (some ⟨b, o, none⟩))) (hb : Blk w b bt cs) [hc : Cut cs o m vs]
  (hd : Nat.blt d n = true) (k : TL P n ops rest ((d, .agg vs.toArray) :: e) w Q) : TL P n ops (⟨some d, .load t x, ty, pos, aft, none⟩ :: rest) e w Q :=
 TL.loadN hx hb hc.h.1 (by rw [hc.h.2]; exact Nat.beq_refl m) hd k
theorem TL.storeC {t bt : TypeId} {m b o : Nat} {x y : Operand} {cs vs cs' : List Value} [ht : Agg P t m] (hx : val e x = some (.pointer (some ⟨b, o, none⟩))) (hy : val e y = some (.agg vs.toArray)) (hb : Blk w b bt cs)
  [hc : Put cs o vs cs'] (hm : vs.length = m)
  (k : ∀ w', Upd b w w' → Blk w' b bt cs' → w'.heap.size = w.heap.size → TL P n ops rest e w' Q) : TL P n ops (⟨none, .store t x y, ty, pos, aft, none⟩ :: rest) e w Q :=
 TL.storeN hx hy hb (by rw [hm]; exact Nat.beq_refl m) (Nat.ble_eq_true_of_le hc.h.2.1) hc.h.2.2 hc.h.1 k
theorem TL.fieldA0 {s : TypeId} {f off b : Nat} {x : Operand} [h : FieldAt P s f off] (hx : val e x = some (.pointer (some ⟨b, 0, none⟩))) (hd : Nat.blt d n = true)
  (k : TL P n ops rest ((d, .pointer (some ⟨b, off, none⟩)) :: e) w Q) : TL P n ops (⟨some d, .fieldAddr s x f, ty, pos, aft, none⟩ :: rest) e w Q :=
 TL.fieldAddr (off := off) hx hd (by rw [Nat.zero_add]; exact k)
end
structure But (b : Nat) (w w' : World) : Prop where
 os : w'.os = w.os
 tape : w'.tape = w.tape
 output : w'.output = w.output
 size : w.heap.size ≤ w'.heap.size
 block : ∀ k, k < w.heap.size → k ≠ b → w'.heap[k]? = w.heap[k]?
theorem But.refl (b : Nat) (w : World) : But b w w := ⟨rfl, rfl, rfl, Nat.le_refl _, fun _ _ _ => rfl⟩
theorem but_grow {b : Nat} {w0 w w' : World} (g : Grow w w') (h : But b w0 w) : But b w0 w' :=
 ⟨g.1.os.trans h.os, g.1.tape.trans h.tape, g.1.output.trans h.output, Nat.le_trans h.size g.2, fun k hk hb => (g.block k (Nat.lt_of_lt_of_le hk h.size)).trans (h.block k hk hb)⟩
theorem but_upd {b : Nat} {w0 w w' : World} (u : Upd b w w') (h : But b w0 w) : But b w0 w' :=
 ⟨u.os.trans h.os, u.tape.trans h.tape, u.output.trans h.output, Nat.le_trans h.size (Nat.le_of_eq u.size.symm), fun k hk hb => (u.block k hb).trans (h.block k hk hb)⟩
theorem but_but {b : Nat} {w0 w w' : World} (u : But b w w') (h : But b w0 w) : But b w0 w' :=
 ⟨u.os.trans h.os, u.tape.trans h.tape, u.output.trans h.output, Nat.le_trans h.size u.size, fun k hk hb => (u.block k (Nat.lt_of_lt_of_le hk h.size) hb).trans (h.block k hk hb)⟩
theorem blk_but {b k : Nat} {w w' : World} {t : TypeId} {cs : List Value} (u : But b w w') (h : Blk w k t cs) (hk : k ≠ b) : Blk w' k t cs := by
 have hl := h.lt
 unfold Blk at *
 rw [u.block k hl hk]; exact h
theorem grow_but {b : Nat} {w0 w w' : World} (u : But b w w') (hb : w0.heap.size ≤ b) (g : Grow w0 w) : Grow w0 w' := Grow.mk
 ⟨u.os.trans g.1.os, u.tape.trans g.1.tape, u.output.trans g.1.output, Nat.le_trans g.2 u.size, fun k hk => (u.block k (Nat.lt_of_lt_of_le hk g.2) (by omega)).trans (g.1.block k hk)⟩
theorem yW {p : Prop} (h : p := by (repeat (first | assumption | exact But.refl _ _ | refine but_grow (by assumption) ?_ | refine but_upd (by assumption) ?_ | refine but_new (by assumption) (by omega) ?_))) : p := h
end Go.V
