/-
  V, second text: memory. What is known of a block; what a step may change; the rules for the operations that read, write and make memory, and for calls.
-/
import Derived.Test.YtjcafonoiaiacaaVa
namespace Go.V
open Go Go.RowKit

/-- The types, each by what the rules ask of it. -/
def oneB (P : Program) (t : TypeId) : Bool :=
  match P.underlying t, P.info? t with
  | some (.struct _), _ | some (.array _ _), _ | _, none | none, _ => false
  | some _, some i => i.size == 1
def aggB (P : Program) (t : TypeId) (m : Nat) : Bool :=
  match P.underlying t, P.info? t with
  | some (.struct _), some i | some (.array _ _), some i => i.size == m
  | _, _ => false
class One (P : Program) (t : TypeId) : Prop where
  h : oneB P t = true
class Agg (P : Program) (t : TypeId) (m : outParam Nat) : Prop where
  h : aggB P t m = true
class Zero (P : Program) (t : TypeId) (z : outParam Value) : Prop where
  h : (P.info? t).bind (·.zero) = some z
def fieldB (P : Program) (s : TypeId) (f off : Nat) : Bool :=
  match P.underlying s with
  | some (.struct fs) => match fs[f]? with
    | some fd => fd.offset == off && (match P.info? fd.type with | some i => i.size != 0 | none => false)
    | none => false
  | _ => false
class FieldAt (P : Program) (s : TypeId) (f : Nat) (off : outParam Nat) : Prop where
  h : fieldB P s f off = true
def sliceB (P : Program) (t : TypeId) (elem size bytes : Nat) : Bool :=
  match P.underlying t with
  | some (.slice e) => e == elem && (match P.info? e with | some i => i.size == size && i.bytes == bytes && size != 0 && (match i.zero with | some z => z.cells.size == size | none => false) | none => false)
  | _ => false
class SliceTy (P : Program) (t : TypeId) (elem size bytes : outParam Nat) : Prop where
  h : sliceB P t elem size bytes = true
def arrB (P : Program) (t : TypeId) (len elem size : Nat) : Bool :=
  match P.underlying t with
  | some (.array l e) => l == len && e == elem && (match P.info? e with | some i => i.size == size | none => false)
  | _ => false
class ArrTy (P : Program) (t : TypeId) (len elem size : outParam Nat) : Prop where
  h : arrB P t len elem size = true
def fnB (P : Program) (f : FuncId) : Bool :=
  match P.funcs[f]? with
  | some fn => !(fn.name == "runtime.NumGoroutine") && !fn.body.isNone
  | none => false
class FnOk (P : Program) (f : FuncId) : Prop where
  h : fnB P f = true
def strB (P : Program) (t : TypeId) : Bool := match P.underlying t with | some .string => true | _ => false
class StrTy (P : Program) (t : TypeId) : Prop where
  h : strB P t = true

section ty
variable {P : Program} {t : TypeId}
theorem One.agg (h : One P t) (w : World) : (isAgg t).run P w = .ok false w := by
  have h := h.h
  unfold oneB at h
  cases hu : P.underlying t with
  | none => cases hi : P.info? t <;> simp [hu, hi] at h
  | some d =>
    simp only [isAgg, underlying, Sem.run_bind, run_program, Result.andThen_ok, hu]
    cases d <;> simp_all [Sem.run_pure]
theorem One.size (h : One P t) (w : World) : (sizeOf t).run P w = .ok 1 w := by
  have h := h.h
  unfold oneB at h
  cases hi : P.info? t with
  | none => cases hu : P.underlying t with
    | none => simp [hu, hi] at h
    | some d => cases d <;> simp [hu, hi] at h
  | some i =>
    have h1 : i.size = 1 := by
      cases hu : P.underlying t with
      | none => simp [hu, hi] at h
      | some d => cases d <;> simp_all
    simp [sizeOf, typeInfo, hi, h1]
theorem Agg.agg {m : Nat} (h : Agg P t m) (w : World) : (isAgg t).run P w = .ok true w := by
  have h := h.h
  unfold aggB at h
  cases hu : P.underlying t with
  | none => simp [hu] at h
  | some d =>
    simp only [isAgg, underlying, Sem.run_bind, run_program, Result.andThen_ok, hu]
    cases d <;> simp_all [Sem.run_pure]
theorem Agg.size {m : Nat} (h : Agg P t m) (w : World) : (sizeOf t).run P w = .ok m w := by
  have h := h.h
  unfold aggB at h
  cases hi : P.info? t with
  | none => cases hu : P.underlying t with
    | none => simp [hu] at h
    | some d => cases d <;> simp [hu, hi] at h
  | some i =>
    have h1 : i.size = m := by
      cases hu : P.underlying t with
      | none => simp [hu] at h
      | some d => cases d <;> simp_all
    simp [sizeOf, typeInfo, hi, h1]
theorem Zero.run {z : Value} (h : Zero P t z) (w : World) : (zeroValue t).run P w = .ok z w := by
  have h := h.h
  cases hi : P.info? t with
  | none => simp [hi] at h
  | some i =>
    simp only [hi, Option.bind_some] at h
    simp [zeroValue, typeInfo, hi, h]
theorem SliceTy.und {e s b : Nat} (h : SliceTy P t e s b) : P.underlying t = some (.slice e) := by
  have h := h.h
  unfold sliceB at h
  split at h
  · rename_i x hu; simp at h; rw [hu, h.1]
  · cases h
theorem SliceTy.info {e s b : Nat} (h : SliceTy P t e s b) : ∃ i z, P.info? e = some i ∧ i.size = s ∧ i.bytes = b ∧ i.zero = some z ∧ z.cells.size = s ∧ s ≠ 0 := by
  have h1 := h.h
  unfold sliceB at h1
  split at h1
  · rename_i x hu
    simp only [Bool.and_eq_true, beq_iff_eq] at h1
    obtain ⟨hx, h2⟩ := h1
    rw [← hx]
    cases hi : P.info? x with
    | none => rw [hi] at h2; simp at h2
    | some i =>
      rw [hi] at h2
      cases hz : i.zero with
      | none => simp [hz] at h2
      | some z =>
        simp [hz] at h2
        exact ⟨i, z, rfl, h2.1.1.1, h2.1.1.2, hz, h2.2, h2.1.2⟩
  · cases h1
theorem SliceTy.size {e s b : Nat} (h : SliceTy P t e s b) (w : World) : (sizeOf e).run P w = .ok s w := by
  obtain ⟨i, z, hi, hs, _⟩ := h.info
  simp [sizeOf, typeInfo, hi, hs]
end ty

/-- What a step may change. -/
abbrev Grow (w w' : World) : Prop := Below w.heap.size w w' ∧ w.heap.size ≤ w'.heap.size
theorem Grow.block {w w' : World} (g : Grow w w') : ∀ k, k < w.heap.size → w'.heap[k]? = w.heap[k]? := g.1.block
theorem Grow.size {w w' : World} (g : Grow w w') : w.heap.size ≤ w'.heap.size := g.2
theorem Grow.refl (w : World) : Grow w w := ⟨Below.refl _ w, Nat.le_refl _⟩
theorem Grow.mk {w w' : World} (h : Below w.heap.size w w') : Grow w w' := ⟨h, h.size⟩
theorem Grow.trans {a b c : World} (g : Grow a b) (h : Grow b c) : Grow a c := ⟨g.1.trans (h.1.mono g.2), Nat.le_trans g.2 h.2⟩
theorem Grow.drew (w : World) : Grow w w.drew := ⟨(Below.refl _ w).drew, Nat.le_refl _⟩
/-- Only block b has changed. -/
structure Upd (b : Nat) (w w' : World) : Prop where
  os : w'.os = w.os
  tape : w'.tape = w.tape
  output : w'.output = w.output
  size : w'.heap.size = w.heap.size
  block : ∀ k, k ≠ b → w'.heap[k]? = w.heap[k]?

/-- Block b is known whole: its cells, of type t, none of them frozen. -/
def Blk (w : World) (b : Nat) (t : TypeId) (cs : List Value) : Prop := w.heap[b]? = some (.cells cs.toArray t (0, 0))

section mem
variable {P : Program} {w w' w0 : World}
theorem Blk.lt {b : Nat} {t : TypeId} {cs : List Value} (h : Blk w b t cs) : b < w.heap.size := (Array.getElem?_eq_some_iff.1 h).1
theorem Blk.cell {b : Nat} {t : TypeId} {cs : List Value} {o : Nat} {v : Value} (h : Blk w b t cs) (hv : cs[o]? = some v) : w.cell? ⟨b, o, none⟩ = some v := by
  unfold Blk at h
  simp [World.cell?, h, hv]
theorem Blk.frozen {b : Nat} {t : TypeId} {cs : List Value} (h : Blk w b t cs) (o : Nat) : w.frozen? ⟨b, o, none⟩ = false := by
  unfold Blk at h
  simp [World.frozen?, h]
theorem Blk.grow {b : Nat} {t : TypeId} {cs : List Value} (g : Grow w w') (h : Blk w b t cs) : Blk w' b t cs := by
  unfold Blk at *
  rw [g.block b (Array.getElem?_eq_some_iff.1 h).1]; exact h
theorem Blk.below {B b : Nat} {t : TypeId} {cs : List Value} (g : Below B w w') (hb : b < B) (h : Blk w b t cs) : Blk w' b t cs := by
  unfold Blk at *
  rw [g.block b hb]; exact h
theorem Blk.upd {b c : Nat} {t : TypeId} {cs : List Value} (u : Upd c w w') (hb : b ≠ c) (h : Blk w b t cs) : Blk w' b t cs := by
  unfold Blk at *
  rw [u.block b hb]; exact h
theorem cell_grow {p : Addr} {v : Value} (g : Grow w w') (h : w.cell? p = some v) : w'.cell? p = some v :=
  (World.cell?_of_block (w := w) (g.block p.block (World.block_lt_of_cell? w p h))).trans h
theorem cell_below {B : Nat} {p : Addr} {v : Value} (g : Below B w w') (hb : p.block < B) (h : w.cell? p = some v) : w'.cell? p = some v :=
  (World.cell?_of_block (w := w) (g.block p.block hb)).trans h
theorem cell_upd {c : Nat} {p : Addr} {v : Value} (u : Upd c w w') (hb : p.block ≠ c) (h : w.cell? p = some v) : w'.cell? p = some v :=
  (World.cell?_of_block (w := w) (u.block p.block hb)).trans h
theorem below_grow {B : Nat} (g : Grow w w') (hB : B ≤ w.heap.size) (h : Below B w0 w) : Below B w0 w' := h.trans (g.1.mono hB)
theorem below_upd {B b : Nat} (u : Upd b w w') (hB : B ≤ b) (h : Below B w0 w) : Below B w0 w' :=
  h.trans ⟨u.os, u.tape, u.output, Nat.le_of_eq u.size.symm, fun k hk => u.block k (by omega)⟩
theorem grow_trans (g : Grow w w') (h : Grow w0 w) : Grow w0 w' := h.trans g
theorem grow_upd {b : Nat} (u : Upd b w w') (hB : w0.heap.size ≤ b) (h : Grow w0 w) : Grow w0 w' := Grow.mk (below_upd u hB h.1)
theorem grow_alloc (o : Obj) : Grow w (w.alloc o) := Grow.mk ((Below.refl _ w).alloc (Nat.le_refl _) o)
theorem blk_alloc (cs : List Value) (t : TypeId) : Blk (w.alloc (.cells cs.toArray t)) w.heap.size t cs := by
  show (w.heap.push _)[w.heap.size]? = _
  simp
theorem upd_setCell (b o : Nat) (v : Value) : Upd b w (w.setCell ⟨b, o, none⟩ v) :=
  ⟨rfl, rfl, rfl, by simp, fun k hk => Below.heap_setCell _ _ _ _ hk⟩
theorem blk_setCell {b o : Nat} {t : TypeId} {cs : List Value} (v : Value) (h : Blk w b t cs) : Blk (w.setCell ⟨b, o, none⟩ v) b t (cs.set o v) := by
  unfold Blk at *
  simp only [World.setCell, Array.getElem?_modify, if_true, h, Option.map_some]
  simp
theorem Upd.trans {b : Nat} (h : Upd b w0 w) (k : Upd b w w') : Upd b w0 w' :=
  ⟨k.os.trans h.os, k.tape.trans h.tape, k.output.trans h.output, k.size.trans h.size, fun i hi => (k.block i hi).trans (h.block i hi)⟩
theorem Upd.refl (b : Nat) (w : World) : Upd b w w := ⟨rfl, rfl, rfl, rfl, fun _ _ => rfl⟩

/-- Cells put over a list, from o on. -/
def putAt (cs : List Value) (o : Nat) : List Value → List Value
  | [] => cs
  | v :: vs => putAt (cs.set o v) (o + 1) vs

theorem run_storeCells_blk {b : Nat} {t : TypeId} : ∀ (vs : List Value) (o i : Nat) (cs : List Value) (w : World), Blk w b t cs → o + i + vs.length ≤ cs.length →
    (∀ v ∈ vs, v.oneCell' = true) → ∃ w', (storeCells ⟨b, o, none⟩ vs i).run P w = .ok () w' ∧ Upd b w w' ∧ Blk w' b t (putAt cs (o + i) vs) := by
  intro vs
  induction vs with
  | nil => intro o i cs w h _ _; exact ⟨w, rfl, Upd.refl b w, h⟩
  | cons v vs ih =>
    intro o i cs w h hl h1
    have ha : (⟨b, o, none⟩ : Addr).add i = ⟨b, o + i, none⟩ := Addr.add_lit ..
    have hlt : o + i < cs.length := by simp at hl; omega
    have hc : w.cell? ⟨b, o + i, none⟩ = some cs[o + i] := h.cell (by simp [hlt])
    have hst : (store ⟨b, o + i, none⟩ v .plain).run P w = .ok () (w.setCell ⟨b, o + i, none⟩ v) := by
      rw [run_store P w _ v .plain (h1 v (by simp))]
      simp only [hc, h.frozen, Bool.false_eq_true, if_false]
    obtain ⟨w', hr, hu, hb⟩ := ih o (i + 1) (cs.set (o + i) v) (w.setCell ⟨b, o + i, none⟩ v) (blk_setCell v h) (by simp at hl ⊢; omega) (fun u hu => h1 u (by simp [hu]))
    refine ⟨w', ?_, (upd_setCell b (o + i) v).trans hu, hb⟩
    simp only [storeCells, ha, Sem.run_bind, hst, Result.andThen_ok]
    exact hr

theorem run_loadCells_from {p : Addr} : ∀ (m i : Nat) (vs : List Value) (acc : Array Value), vs.length = m → (∀ j v, vs[j]? = some v → w.cell? (p.add (i + j)) = some v) →
    (loadCellsFrom p i m acc).run P w = .ok (acc ++ vs.toArray) w := by
  intro m
  induction m with
  | zero => intro i vs acc h _; cases vs with
    | nil => simp [loadCellsFrom]
    | cons _ _ => simp at h
  | succ m ih =>
    intro i vs acc h hc
    cases vs with
    | nil => simp at h
    | cons v vs =>
      have h0 := hc 0 v (by simp)
      simp only [Nat.add_zero] at h0
      simp only [loadCellsFrom, Sem.run_bind, run_load, h0, Result.andThen_ok]
      rw [ih (i + 1) vs (acc.push v) (by simpa using h) (fun j u hu => by have := hc (j + 1) u (by simpa using hu); rwa [show i + (j + 1) = i + 1 + j by omega] at this)]
      simp

theorem run_loadVar_one {t : TypeId} {p : Addr} {v : Value} (ht : One P t) (hc : w.cell? p = some v) : (loadVar t p).run P w = .ok v w := by
  simp [loadVar, ht.agg, hc]
theorem run_loadVar_agg {t : TypeId} {m : Nat} {p : Addr} {vs : List Value} (ht : Agg P t m) (hl : vs.length = m) (hc : ∀ j v, vs[j]? = some v → w.cell? (p.add j) = some v) : (loadVar t p).run P w = .ok (.agg vs.toArray) w := by
  have := run_loadCells_from (P := P) (w := w) (p := p) m 0 vs #[] hl (by simpa using hc)
  simp [loadVar, ht.agg, ht.size, loadCells, this]
theorem Blk.cells {b : Nat} {t : TypeId} {cs vs : List Value} {o m : Nat} (h : Blk w b t cs) (hv : (cs.drop o).take m = vs) : ∀ j v, vs[j]? = some v → w.cell? ((⟨b, o, none⟩ : Addr).add j) = some v := by
  intro j v hj
  rw [show (⟨b, o, none⟩ : Addr).add j = ⟨b, o + j, none⟩ from Addr.add_lit ..]
  refine h.cell ?_
  rw [← hv, List.getElem?_take] at hj
  split at hj
  · simpa using hj
  · cases hj
/-- A whole struct read out of its block. -/
theorem load_blk {t bt : TypeId} {m b o : Nat} {cs vs : List Value} [ht : Agg P t m] (hb : Blk w b bt cs) (hv : (cs.drop o).take m = vs) (hl : Nat.beq vs.length m = true) : (loadVar t ⟨b, o, none⟩).run P w = .ok (.agg vs.toArray) w :=
  run_loadVar_agg ht (Nat.eq_of_beq_eq_true hl) (hb.cells hv)
theorem run_storeVar_one {t bt : TypeId} {b o : Nat} {v : Value} {cs cs' : List Value} (ht : One P t) (h : Blk w b bt cs) (ho : Nat.blt o cs.length = true) (h1 : v.oneCell' = true) (hcs : cs.set o v = cs') :
    ∃ w', (storeVar t ⟨b, o, none⟩ v).run P w = .ok () w' ∧ Upd b w w' ∧ Blk w' b bt cs' := by
  have hlt : o + 0 + [v].length ≤ cs.length := Nat.le_of_ble_eq_true ho
  obtain ⟨w', hr, hu, hb⟩ := run_storeCells_blk (P := P) (t := bt) [v] o 0 cs w h hlt (by simpa using h1)
  refine ⟨w', ?_, hu, by rw [← hcs]; exact hb⟩
  have hv : v.cells = #[v] := by cases v <;> first | rfl | cases h1
  simp only [storeVar, hv, ht.size, Sem.run_bind, Result.andThen_ok]
  simpa using hr
theorem run_storeVar_agg {t bt : TypeId} {m b o : Nat} {vs cs cs' : List Value} (ht : Agg P t m) (h : Blk w b bt cs) (hm : Nat.beq vs.length m = true) (ho : Nat.ble (o + vs.length) cs.length = true) (h1 : vs.all Value.oneCell' = true) (hcs : putAt cs o vs = cs') :
    ∃ w', (storeVar t ⟨b, o, none⟩ (.agg vs.toArray)).run P w = .ok () w' ∧ Upd b w w' ∧ Blk w' b bt cs' := by
  have hlt : o + 0 + vs.length ≤ cs.length := Nat.le_of_ble_eq_true ho
  obtain ⟨w', hr, hu, hb⟩ := run_storeCells_blk (P := P) (t := bt) vs o 0 cs w h hlt (fun v hv => List.all_eq_true.1 h1 v hv)
  refine ⟨w', ?_, hu, by rw [← hcs]; exact hb⟩
  simp only [storeVar, ht.size, Sem.run_bind, Result.andThen_ok, Value.cells]
  simpa [Nat.eq_of_beq_eq_true hm] using hr
end mem

section rules
variable {P : Program} {n : Nat} {e : Env} {w : World} {Q : Post} {ops : Array Oper} {rest : List Oper} {d : Nat} {ty : TypeId} {pos : String} {aft : Array Edge}

theorem TL.box {t : TypeId} {x : Operand} {v : Value} {cs : List Value} (hx : val e x = some v) (hcs : v.cells.toList = cs) (hd : Nat.blt d n = true)
    (k : ∀ b w', Grow w w' → Blk w' b t cs → w.heap.size = b → w'.heap.size = b + 1 → TL P n ops rest ((d, .pointer (some ⟨b, 0, none⟩)) :: e) w' Q) :
    TL P n ops (⟨some d, .box t x, ty, pos, aft, none⟩ :: rest) e w Q :=
  TL.run (v := .pointer (some ⟨w.heap.size, 0, none⟩)) (w' := w.alloc (.cells cs.toArray t)) (fun a ha => by
    have hca : v.cells = cs.toArray := by rw [← hcs]
    simp [execOp, Instr.box, newVar, newRow, ha.eval hx, hca]) hd
    (k _ _ (grow_alloc _) (blk_alloc cs t) rfl (by simp))

theorem TL.alloc {t : TypeId} {z : Value} {cs : List Value} [hz : Zero P t z] (hcs : z.cells.toList = cs) (hd : Nat.blt d n = true)
    (k : ∀ b w', Grow w w' → Blk w' b t cs → w.heap.size = b → w'.heap.size = b + 1 → TL P n ops rest ((d, .pointer (some ⟨b, 0, none⟩)) :: e) w' Q) :
    TL P n ops (⟨some d, .alloc t, ty, pos, aft, none⟩ :: rest) e w Q :=
  TL.run (v := .pointer (some ⟨w.heap.size, 0, none⟩)) (w' := w.alloc (.cells cs.toArray t)) (fun a ha => by
    have hca : z.cells = cs.toArray := by rw [← hcs]
    simp [execOp, Instr.alloc, newVar, newRow, hz.run, hca]) hd
    (k _ _ (grow_alloc _) (blk_alloc cs t) rfl (by simp))

/-- A load of one cell. -/
theorem TL.load1 {t : TypeId} {x : Operand} {p : Addr} {v : Value} [ht : One P t] (hx : val e x = some (.pointer (some p))) (hc : w.cell? p = some v) (hd : Nat.blt d n = true)
    (k : TL P n ops rest ((d, v) :: e) w Q) : TL P n ops (⟨some d, .load t x, ty, pos, aft, none⟩ :: rest) e w Q :=
  TL.run (fun a ha => by simp [execOp, Instr.loadAt, ha.eval hx, Instr.sureAddr, run_loadVar_one ht hc]) hd k
/-- A load of a struct or an array out of a block that is known whole. -/
theorem TL.loadN {t bt : TypeId} {m b o : Nat} {x : Operand} {cs vs : List Value} [ht : Agg P t m] (hx : val e x = some (.pointer (some ⟨b, o, none⟩))) (hb : Blk w b bt cs) (hv : (cs.drop o).take m = vs) (hl : Nat.beq vs.length m = true)
    (hd : Nat.blt d n = true) (k : TL P n ops rest ((d, .agg vs.toArray) :: e) w Q) : TL P n ops (⟨some d, .load t x, ty, pos, aft, none⟩ :: rest) e w Q :=
  TL.run (fun a ha => by simp [execOp, Instr.loadAt, ha.eval hx, Instr.sureAddr, run_loadVar_agg ht (Nat.eq_of_beq_eq_true hl) (hb.cells hv)]) hd k
theorem TL.store1 {t bt : TypeId} {x y : Operand} {b o : Nat} {v : Value} {cs cs' : List Value} [ht : One P t] (hx : val e x = some (.pointer (some ⟨b, o, none⟩))) (hy : val e y = some v) (hb : Blk w b bt cs)
    (h1 : v.oneCell' = true) (ho : Nat.blt o cs.length = true) (hcs : cs.set o v = cs')
    (k : ∀ w', Upd b w w' → Blk w' b bt cs' → w'.heap.size = w.heap.size → TL P n ops rest e w' Q) : TL P n ops (⟨none, .store t x y, ty, pos, aft, none⟩ :: rest) e w Q := by
  obtain ⟨w', hr, hu, hb'⟩ := run_storeVar_one (P := P) ht hb ho h1 hcs
  exact TL.run_skip (fun a ha => by simp [execOp, Instr.storeAt, ha.eval hx, ha.eval hy, Instr.sureAddr, hr]) (k w' hu hb' hu.size)
theorem TL.storeN {t bt : TypeId} {m : Nat} {x y : Operand} {b o : Nat} {vs cs cs' : List Value} [ht : Agg P t m] (hx : val e x = some (.pointer (some ⟨b, o, none⟩))) (hy : val e y = some (.agg vs.toArray)) (hb : Blk w b bt cs)
    (hm : Nat.beq vs.length m = true) (ho : Nat.ble (o + vs.length) cs.length = true) (h1 : vs.all Value.oneCell' = true) (hcs : putAt cs o vs = cs')
    (k : ∀ w', Upd b w w' → Blk w' b bt cs' → w'.heap.size = w.heap.size → TL P n ops rest e w' Q) : TL P n ops (⟨none, .store t x y, ty, pos, aft, none⟩ :: rest) e w Q := by
  obtain ⟨w', hr, hu, hb'⟩ := run_storeVar_agg (P := P) ht hb hm ho h1 hcs
  exact TL.run_skip (fun a ha => by simp [execOp, Instr.storeAt, ha.eval hx, ha.eval hy, Instr.sureAddr, hr]) (k w' hu hb' hu.size)

theorem run_fieldPlace {s : TypeId} {f off b o : Nat} (h : FieldAt P s f off) (w : World) : (Instr.fieldAt s (.pointer (some ⟨b, o, none⟩)) f).run P w = .ok (.pointer (some ⟨b, o + off, none⟩)) w := by
  have h := h.h
  unfold fieldB at h
  split at h
  · rename_i fs hu
    split at h
    · rename_i fd hfd
      cases hi : P.info? fd.type with
      | none => simp [hi] at h
      | some i =>
        simp [hi] at h
        obtain ⟨rfl, h2⟩ := h
        simp [Instr.fieldAt, underlying, hu, hfd, Instr.sureAddr, fieldPlace, sizeOf, typeInfo, hi, h2, Addr.add_lit]
    · cases h
  · cases h
theorem TL.fieldAddr {s : TypeId} {f off b o : Nat} {x : Operand} [h : FieldAt P s f off] (hx : val e x = some (.pointer (some ⟨b, o, none⟩))) (hd : Nat.blt d n = true)
    (k : TL P n ops rest ((d, .pointer (some ⟨b, o + off, none⟩)) :: e) w Q) : TL P n ops (⟨some d, .fieldAddr s x f, ty, pos, aft, none⟩ :: rest) e w Q :=
  TL.run (fun a ha => by simp [execOp, ha.eval hx, run_fieldPlace h]) hd k

/-- len of a slice, of a string. -/
theorem TL.len_slice {t elem size bytes : Nat} {x : Operand} {a : Option Addr} {m c : Nat} [ht : SliceTy P t elem size bytes] (hx : val e x = some (.slice a m c)) (hd : Nat.blt d n = true)
    (k : TL P n ops rest ((d, .int .i64 (m : Int)) :: e) w Q) : TL P n ops (⟨some d, .call ⟨.builtin .len, #[x], #[t]⟩, ty, pos, aft, none⟩ :: rest) e w Q :=
  TL.run (fun a ha => by simp [execOp, resolve, invoke, builtin, Builtin.len_, underlying, ht.und, ha.eval hx, goInt]) hd k

/-- min of two numbers. -/
theorem TL.min2 {x y : Operand} {kd : IntKind} {p q : Int} {t1 t2 : TypeId} (hx : val e x = some (.int kd p)) (hy : val e y = some (.int kd q)) (hd : Nat.blt d n = true)
    (k : TL P n ops rest ((d, .int kd (if q < p then q else p)) :: e) w Q) : TL P n ops (⟨some d, .call ⟨.builtin .min, #[x, y], #[t1, t2]⟩, ty, pos, aft, none⟩ :: rest) e w Q :=
  TL.run (fun a ha => by simp [execOp, resolve, invoke, builtin, Builtin.min_, Builtin.min2, ha.eval hx, ha.eval hy]) hd k

/-- Sums that stay in their kind. -/
theorem TL.addI {x y : Operand} {p q : Int} {t1 t2 : TypeId} (hx : val e x = some (.int .i64 p)) (hy : val e y = some (.int .i64 q)) (h1 : -9223372036854775808 ≤ p + q) (h2 : p + q ≤ 9223372036854775807) (hd : Nat.blt d n = true)
    (k : TL P n ops rest ((d, .int .i64 (p + q)) :: e) w Q) : TL P n ops (⟨some d, .binOp .add t1 x y t2, ty, pos, aft, none⟩ :: rest) e w Q :=
  TL.run (fun a ha => by simp [execOp, binOp, eqGuard_int, Op.intArith, ha.eval hx, ha.eval hy, IntWalk.i64_in _ ⟨h1, h2⟩]) hd k
theorem TL.subI {x y : Operand} {p q : Int} {t1 t2 : TypeId} (hx : val e x = some (.int .i64 p)) (hy : val e y = some (.int .i64 q)) (h1 : -9223372036854775808 ≤ p - q) (h2 : p - q ≤ 9223372036854775807) (hd : Nat.blt d n = true)
    (k : TL P n ops rest ((d, .int .i64 (p - q)) :: e) w Q) : TL P n ops (⟨some d, .binOp .sub t1 x y t2, ty, pos, aft, none⟩ :: rest) e w Q :=
  TL.run (fun a ha => by simp [execOp, binOp, eqGuard_int, Op.intArith, ha.eval hx, ha.eval hy, IntWalk.i64_in _ ⟨h1, h2⟩]) hd k

theorem TL.rem {x y : Operand} {kd : IntKind} {p q : Int} {t1 t2 : TypeId} (hx : val e x = some (.int kd p)) (hy : val e y = some (.int kd q)) (h0 : q ≠ 0) (hd : Nat.blt d n = true)
    (k : TL P n ops rest ((d, .int kd (p.tmod q)) :: e) w Q) : TL P n ops (⟨some d, .binOp .rem t1 x y t2, ty, pos, aft, none⟩ :: rest) e w Q :=
  TL.run (fun a ha => by simp [execOp, binOp, eqGuard_int, Op.intDiv, ha.eval hx, ha.eval hy, h0]) hd k
theorem TL.quo {x y : Operand} {kd : IntKind} {p q : Int} {t1 t2 : TypeId} (hx : val e x = some (.int kd p)) (hy : val e y = some (.int kd q)) (h0 : q ≠ 0) (hd : Nat.blt d n = true)
    (k : TL P n ops rest ((d, .int kd (kd.wrap (p.tdiv q))) :: e) w Q) : TL P n ops (⟨some d, .binOp .quo t1 x y t2, ty, pos, aft, none⟩ :: rest) e w Q :=
  TL.run (fun a ha => by simp [execOp, binOp, eqGuard_int, Op.intDiv, ha.eval hx, ha.eval hy, h0]) hd k

theorem evalAll {a : Act} (ha : Fits n e a) {xs : List Operand} {vs : List Value} (h : xs.map (val e) = vs.map some) : xs.toArray.map a.eval = vs.toArray := by
  have : xs.map a.eval = vs := by
    induction xs generalizing vs with
    | nil => cases vs with
      | nil => rfl
      | cons _ _ => simp at h
    | cons x xs ih => cases vs with
      | nil => simp at h
      | cons v vs =>
        simp only [List.map_cons, List.cons.injEq] at h
        simp [ha.eval h.1, ih h.2]
  simp [this]
end rules
attribute [irreducible] Blk
end Go.V
