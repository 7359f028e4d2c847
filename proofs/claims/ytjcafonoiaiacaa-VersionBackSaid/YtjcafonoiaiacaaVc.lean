/-
  V, third text: calls, slices, append, literals.
-/
import Derived.Test.YtjcafonoiaiacaaVb
namespace Go.V
open Go Go.RowKit
set_option linter.unusedSimpArgs false

/-- A call that returns: what is said of the value and of the world. -/
def Ret (R : Value → World → Prop) : Ending → World → Prop := fun x w => ∃ v, x = .returned v ∧ R v w

theorem Ret.mono {R R' : Value → World → Prop} {x : Ending} {w : World} (h : Ret R x w) (k : ∀ v w, R v w → R' v w) : Ret R' x w :=
  let ⟨v, hx, hr⟩ := h; ⟨v, hx, k v w hr⟩

/-- The k-th cell behind an address. -/
def at' : Option Addr → Nat → Addr
  | some p, k => ⟨p.block, p.off + k, none⟩
  | none, _ => default
theorem at_some (b o k : Nat) : at' (some ⟨b, o, none⟩) k = ⟨b, o + k, none⟩ := rfl

/-- From the address on lie these cells, in a block that F speaks of. -/
def Row (F : Nat → Prop) (w : World) (a : Option Addr) (cs : List Value) : Prop :=
  match a with
  | none => cs = []
  | some p => cs ≠ [] → p.spot = none ∧ F p.block ∧ p.block < w.heap.size ∧ ∀ j v, cs[j]? = some v → w.cell? ⟨p.block, p.off + j, none⟩ = some v

theorem ne_nil_at {cs : List Value} {j : Nat} {v : Value} (h : cs[j]? = some v) : cs ≠ [] := by rintro rfl; simp at h
/-- A slice: its elements' cells (sz a piece). -/
structure Sl (F : Nat → Prop) (w : World) (sz : Nat) (a : Option Addr) (n c : Nat) (cs : List Value) : Prop where
  len : cs.length = n * sz
  cap : n ≤ c
  max : c ≤ maxLen
  nil : a = none → c = 0
  row : Row F w a cs

section sl
variable {P : Program} {F : Nat → Prop} {w w' : World} {sz : Nat} {a : Option Addr} {n c : Nat} {cs : List Value}

theorem Row.cell (h : Row F w a cs) {j : Nat} {v : Value} (hj : cs[j]? = some v) : w.cell? (at' a j) = some v := by
  cases a with
  | none => simp only [Row] at h; subst h; simp at hj
  | some p => exact (h (ne_nil_at hj)).2.2.2 j v hj
theorem Row.cell_add (h : Row F w a cs) {p : Addr} (hp : a = some p) : ∀ j v, cs[j]? = some v → w.cell? (p.add j) = some v := by
  subst hp
  intro j v hj
  obtain ⟨h1, h2, h3, h4⟩ := h (ne_nil_at hj)
  obtain ⟨b, o, s⟩ := p
  simp only at h1
  subst h1
  rw [Addr.add_lit]
  exact h4 j v hj
theorem Row.mono {F' : Nat → Prop} (h : Row F w a cs) (hF : ∀ k, F k → F' k) : Row F' w a cs := by
  cases a with
  | none => exact h
  | some p => exact fun hn => ⟨(h hn).1, hF _ (h hn).2.1, (h hn).2.2⟩
theorem Row.keep (h : Row F w a cs) (hb : ∀ k, F k → k < w.heap.size → w'.heap[k]? = w.heap[k]?) (hs : w.heap.size ≤ w'.heap.size) : Row F w' a cs := by
  cases a with
  | none => exact h
  | some p => exact fun hn => (fun h => ⟨h.1, h.2.1, Nat.lt_of_lt_of_le h.2.2.1 hs, fun j v hj => (World.cell?_of_block (w := w) (a := ⟨p.block, p.off + j, none⟩) (hb p.block h.2.1 h.2.2.1)).trans (h.2.2.2 j v hj)⟩) (h hn)
theorem Sl.keep (h : Sl F w sz a n c cs) (hb : ∀ k, F k → k < w.heap.size → w'.heap[k]? = w.heap[k]?) (hs : w.heap.size ≤ w'.heap.size) : Sl F w' sz a n c cs :=
  ⟨h.len, h.cap, h.max, h.nil, h.row.keep hb hs⟩
theorem Sl.grow (h : Sl F w sz a n c cs) (g : Grow w w') : Sl F w' sz a n c cs := h.keep (fun k _ hk => g.block k hk) g.size
theorem Sl.upd {b : Nat} (h : Sl F w sz a n c cs) (u : Upd b w w') (hF : ∀ k, F k → k ≠ b) : Sl F w' sz a n c cs := h.keep (fun k hk _ => u.block k (hF k hk)) (Nat.le_of_eq u.size.symm)
theorem Sl.below {B : Nat} (h : Sl F w sz a n c cs) (g : Below B w w') (hF : ∀ k, F k → k < B) : Sl F w' sz a n c cs := h.keep (fun k hk _ => g.block k (hF k hk)) g.size
theorem Sl.mono {F' : Nat → Prop} (h : Sl F w sz a n c cs) (hF : ∀ k, F k → F' k) : Sl F' w sz a n c cs := ⟨h.len, h.cap, h.max, h.nil, h.row.mono hF⟩
theorem Sl.nil_mk (F : Nat → Prop) (w : World) (sz : Nat) : Sl F w sz none 0 0 [] := ⟨by simp, Nat.le_refl _, Nat.zero_le _, fun _ => rfl, rfl⟩

theorem Sl.tight (h : Sl F w sz a n c cs) : Sl (fun k => F k ∧ k < w.heap.size) w sz a n c cs := ⟨h.len, h.cap, h.max, h.nil, by
  have h1 := h.row
  cases a with
  | none => exact h1
  | some p => exact fun hn => ⟨(h1 hn).1, ⟨(h1 hn).2.1, (h1 hn).2.2.1⟩, (h1 hn).2.2⟩⟩
theorem sl_grow (g : Grow w w') (h : Sl F w sz a n c cs) : Sl F w' sz a n c cs := h.grow g
theorem sl_upd {b : Nat} (u : Upd b w w') (h : Sl F w sz a n c cs) (hF : ∀ k, F k → k < w.heap.size → k ≠ b) : Sl F w' sz a n c cs := h.keep (fun k hk hk2 => u.block k (hF k hk hk2)) (Nat.le_of_eq u.size.symm)
/-- What a call owns reads as a slice. -/
theorem sl_of_own {base : Nat} {e : TypeId} {v : Value} {xs : List Value} (h : w.ownsRow base e sz v n xs) : ∃ a c, v = .slice a n c ∧ Sl (fun k => base ≤ k ∧ v.ownBlock = some k) w sz a n c xs := by
  obtain ⟨h1, h2⟩ := h
  rcases h2 with ⟨rfl, rfl⟩ | ⟨g, cap, cur, rfl, hg, hh, hn, hm, hs, ht⟩
  · simp at h1
    subst h1
    exact ⟨none, 0, rfl, Sl.nil_mk _ _ _⟩
  · refine ⟨some ⟨g, 0, none⟩, cap, rfl, h1, hn, hm, fun h => by simp at h, fun _ => ⟨rfl, ⟨hg, rfl⟩, (Array.getElem?_eq_some_iff.1 hh).1, fun j v hj => ?_⟩⟩
    have : cur[j]? = some v := by
      rw [← ht, List.getElem?_take] at hj
      split at hj
      · simpa using hj
      · cases hj
    simp [World.cell?, hh, this]
/-- A block that is known whole reads as a slice. -/
theorem sl_of_blk {b m : Nat} {t : TypeId} {cs : List Value} (hb : Blk w b t cs) (hl : cs.length = m * sz) (hm : m ≤ maxLen) : Sl (fun k => k = b) w sz (some ⟨b, 0, none⟩) m m cs :=
  ⟨hl, Nat.le_refl _, hm, (fun h => by cases h), fun _ => ⟨rfl, rfl, hb.lt, (fun j v hj => by rw [Nat.zero_add]; exact hb.cell hj)⟩⟩
theorem own_keep {base : Nat} {e : TypeId} {v : Value} {xs : List Value} (h : w.ownsRow base e sz v n xs) (hb : ∀ k, base ≤ k → v.ownBlock = some k → w'.heap[k]? = w.heap[k]?) : w'.ownsRow base e sz v n xs := by
  obtain ⟨h1, h2⟩ := h
  refine ⟨h1, ?_⟩
  rcases h2 with h2 | ⟨g, cap, cur, hv, hg, hh, r⟩
  · exact Or.inl h2
  · exact Or.inr ⟨g, cap, cur, hv, hg, by rw [hb g hg (by rw [hv]; rfl)]; exact hh, r⟩
theorem own_lt {base : Nat} {e : TypeId} {v : Value} {xs : List Value} (h : w.ownsRow base e sz v n xs) {k : Nat} (hk : v.ownBlock = some k) : base ≤ k ∧ k < w.heap.size := h.lt k hk
theorem own_grow {base : Nat} {e : TypeId} {v : Value} {xs : List Value} (h : w.ownsRow base e sz v n xs) (g : Grow w w') : w'.ownsRow base e sz v n xs := own_keep h fun k _ hv => g.block k (own_lt h hv).2
theorem own_upd {base b : Nat} {e : TypeId} {v : Value} {xs : List Value} (h : w.ownsRow base e sz v n xs) (u : Upd b w w') (hb : b < base) : w'.ownsRow base e sz v n xs := own_keep h fun k hk _ => u.block k (by omega)
theorem own_base {base base' : Nat} {e : TypeId} {v : Value} {xs : List Value} (h : w.ownsRow base e sz v n xs) (hb : base' ≤ base) : w.ownsRow base' e sz v n xs := by
  obtain ⟨h1, h2⟩ := h
  refine ⟨h1, ?_⟩
  rcases h2 with h2 | ⟨g, cap, cur, hv, hg, r⟩
  · exact Or.inl h2
  · exact Or.inr ⟨g, cap, cur, hv, Nat.le_trans hb hg, r⟩
/-- An append may have written into the one block that the slice owns. -/
theorem blk_grownBy {v : Value} {b : Nat} {t : TypeId} {cs : List Value} (g : w.grownBy w' v.ownBlock) (hb : v.ownBlock ≠ some b) (h : Blk w b t cs) : Blk w' b t cs := by
  unfold Blk at *
  rw [g.block b (Array.getElem?_eq_some_iff.1 h).1 (fun e => hb e.symm)]; exact h
theorem below_grownBy {w0 : World} {B : Nat} {row : Option Nat} (g : w.grownBy w' row) (hB : B ≤ w.heap.size) (hr : ∀ k, row = some k → B ≤ k) (h : Below B w0 w) : Below B w0 w' := h.grown g hB hr
end sl

section rules
variable {P : Program} {n : Nat} {e : Env} {w : World} {Q : Post} {ops : Array Oper} {rest : List Oper} {d : Nat} {ty : TypeId} {pos : String} {aft : Array Edge}

theorem run_callFunc {f : FuncId} [h : FnOk P f] (args : Array Value) (w : World) : (callFunc f args).run P w = .ok (.enter f args) w := by
  have h := h.h
  unfold fnB at h
  cases hf : P.funcs[f]? with
  | none => simp [hf] at h
  | some fn =>
    simp [hf] at h
    obtain ⟨c, hc⟩ := Option.isSome_iff_exists.1 h.2
    simp [callFunc, hf, h.1, hc]

def argsV (f : Operand → Option Value) : List Operand → Option (List Value)
  | [] => some []
  | x :: r => match f x, argsV f r with
    | some v, some vs => some (v :: vs)
    | _, _ => none
theorem argsV_eval {r : Act} (hr : Fits n e r) : ∀ (xs : List Operand) (vs : List Value), argsV (val e) xs = some vs → xs.toArray.map r.eval = vs.toArray := by
  have key : ∀ (xs : List Operand) (vs : List Value), argsV (val e) xs = some vs → xs.map r.eval = vs := by
    intro xs
    induction xs with
    | nil => intro vs h; simp only [argsV, Option.some.injEq] at h; subst h; rfl
    | cons x xs ih =>
      intro vs h
      simp only [argsV] at h
      split at h
      · rename_i v vs' h1 h2
        simp only [Option.some.injEq] at h
        subst h
        simp [hr.eval h1, ih vs' h2]
      · cases h
  intro xs vs h
  simp [key xs vs h]
/-- A call of a function of the program, by its contract. -/
theorem TL.call {f : FuncId} {xs : List Operand} {tys : Array TypeId} {vs : List Value} {R : Value → World → Prop} [hf : FnOk P f] (hx : argsV (val e) xs = some vs)
    (hc : Calls P f vs.toArray w (Ret R)) (hd : Nat.blt d n = true)
    (k : ∀ v w', R v w' → TL P n ops rest ((d, v) :: e) w' Q) :
    TL P n ops (⟨some d, .call ⟨.value (.func f), xs.toArray, tys⟩, ty, pos, aft, none⟩ :: rest) e w Q := TL.mk fun a ha =>
  wpList_plain rfl fun K hK => by
    unfold Oper.wp
    have hr : (execOp a.eval ⟨some d, .call ⟨.value (.func f), xs.toArray, tys⟩, ty, pos, aft, none⟩).run P w = .ok (.enter f vs.toArray) w := by
      have := argsV_eval ha xs vs hx
      simp [execOp, resolve, Act.eval, Deferred.ofValue, invoke, run_callFunc] at this ⊢
      exact this
    rw [hr, Oper.upon_enter]
    refine Calls.mono hc ?_
    rintro x w' ⟨v, rfl, hv⟩
    exact hK _ _ ((k v w' hv).out (ha.put hd v))

/-- The address of an element. -/
theorem TL.indexAddr {t elem size bytes : Nat} {x i : Operand} {a : Option Addr} {m c j : Nat} {kd : IntKind} {z : Int} [ht : SliceTy P t elem size bytes] (hx : val e x = some (.slice a m c)) (hi : val e i = some (.int kd z))
    (hz : z = (j : Int)) (hj : j < m) {o' : Nat} (ho : j * size = o') (hs : ∃ F cs, Sl F w size a m c cs) (hd : Nat.blt d n = true)
    (k : TL P n ops rest ((d, .pointer (some (at' a o'))) :: e) w Q) : TL P n ops (⟨some d, .indexAddr t x i, ty, pos, aft, none⟩ :: rest) e w Q :=
  TL.run (fun r hr => by
    obtain ⟨F, cs, hs⟩ := hs
    subst ho
    cases a with
    | none => have := hs.nil rfl; have := hs.cap; omega
    | some p =>
      obtain ⟨b, o, s⟩ := p
      have hne : cs ≠ [] := by
        rintro rfl
        have h2 := hs.len
        obtain ⟨_, _, _, _, _, _, _, h3⟩ := ht.info
        simp only [List.length_nil] at h2
        have := Nat.mul_pos (show 0 < m by omega) (Nat.pos_of_ne_zero h3)
        omega
      have h1 : s = none := (hs.row hne).1
      subst h1
      subst hz
      simp [execOp, hr.eval hx, hr.eval hi, Instr.indexAt, asIntOf, underlying, ht.und, ht.size, Nat.not_le.2 hj, Addr.add_lit, at']) hd k

theorem run_bound {k : IntKind} {z : Int} {j y : Nat} {code : BoundsCode} (hz : z = (j : Int)) (hj : j ≤ y) (w : World) : (Instr.sliceBound (.int k z) y code).run P w = .ok j w := by
  subst hz
  have : (j : Int) ≤ (y : Int) := by omega
  simp [Instr.sliceBound, asIntOf, this]

/-- The bounds of a slice expression, those that are written. -/
def bnd (e : Env) : Option Operand → Nat → Nat → Prop
  | none, j, dflt => j = dflt
  | some x, j, _ => ∃ k z, val e x = some (.int k z) ∧ z = (j : Int)
theorem bnd_none (j : Nat) : bnd e none j j := rfl
theorem bnd_some {x : Operand} {k : IntKind} {z : Int} {j dflt : Nat} (h : val e x = some (.int k z)) (hz : z = (j : Int)) : bnd e (some x) j dflt := ⟨k, z, h, hz⟩

theorem TL.slice {t elem size bytes : Nat} {x : Operand} {lo hi mx : Option Operand} {F : Nat → Prop} {a : Option Addr} {m c l h mm : Nat} {cs : List Value} [ht : SliceTy P t elem size bytes]
    (hx : val e x = some (.slice a m c)) (hs : Sl F w size a m c cs) (hl : bnd e lo l 0) (hh : bnd e hi h m) (hm : bnd e mx mm c) (hno : hi = none → mx = none) (b1 : l ≤ h) (b2 : h ≤ m) (b3 : h ≤ mm) (b4 : mm ≤ c) (hd : Nat.blt d n = true)
    (k : ∀ a', Sl F w size a' (h - l) (mm - l) ((cs.drop (l * size)).take ((h - l) * size)) → (a' = none ↔ a = none) → TL P n ops rest ((d, .slice a' (h - l) (mm - l)) :: e) w Q) :
    TL P n ops (⟨some d, .slice t x lo hi mx, ty, pos, aft, none⟩ :: rest) e w Q := by
  have hbs : ∀ r, Fits n e r → (Instr.sliceBounds true m c (lo.map r.eval) (hi.map r.eval) (mx.map r.eval)).run P w = .ok (l, h, mm) w := by
    intro r hr
    cases lo with
    | none =>
      simp only [bnd] at hl; subst hl
      cases hi with
      | none =>
        have h0 := hno rfl; subst h0
        simp only [bnd] at hh hm; subst hh; subst hm
        simp [Instr.sliceBounds]
      | some y =>
        obtain ⟨k2, z2, v2, e2⟩ := hh
        cases mx with
        | none => simp only [bnd] at hm; subst hm; simp [Instr.sliceBounds, hr.eval v2, run_bound e2 b3]
        | some u => obtain ⟨k3, z3, v3, e3⟩ := hm; simp [Instr.sliceBounds, hr.eval v2, hr.eval v3, run_bound e2 b3, run_bound e3 b4]
    | some x1 =>
      obtain ⟨k1, z1, v1, e1⟩ := hl
      cases hi with
      | none =>
        have h0 := hno rfl; subst h0
        simp only [bnd] at hh hm; subst hh; subst hm
        simp [Instr.sliceBounds, hr.eval v1, run_bound e1 b1]
      | some y =>
        obtain ⟨k2, z2, v2, e2⟩ := hh
        cases mx with
        | none => simp only [bnd] at hm; subst hm; simp [Instr.sliceBounds, hr.eval v1, hr.eval v2, run_bound e2 b3, run_bound e1 b1]
        | some u => obtain ⟨k3, z3, v3, e3⟩ := hm; simp [Instr.sliceBounds, hr.eval v1, hr.eval v2, hr.eval v3, run_bound e2 b3, run_bound e3 b4, run_bound e1 b1]
  have hlen : ((cs.drop (l * size)).take ((h - l) * size)).length = (h - l) * size := by
    rw [List.length_take, List.length_drop, hs.len, ← Nat.sub_mul]
    exact Nat.min_eq_left (Nat.mul_le_mul_right _ (by omega))
  refine TL.run (v := .slice (if mm = l then a else a.map (·.add (l * size))) (h - l) (mm - l)) (w' := w) (fun r hr => ?_) hd (k _ ⟨hlen, by omega, by have := hs.max; omega, ?_, ?_⟩ ?_)
  · simp [execOp, hr.eval hx, Instr.sliceAt, underlying, ht.und, Instr.slice, hbs r hr, ht.size]
  · intro h0
    split at h0
    · have := hs.nil h0; omega
    · have := hs.nil (by simpa using h0); omega
  · have hrow := hs.row
    split
    · rename_i hml
      have : (h - l) = 0 := by omega
      rw [this]
      cases a with
      | none => simp [Row]
      | some p => exact fun hn => by simp at hn
    · cases a with
      | none => simp only [Row] at hrow; subst hrow; simp [Row]
      | some p =>
        obtain ⟨b, o, s⟩ := p
        intro hne
        obtain ⟨h1, h2, h3, h4⟩ := hrow (by rintro rfl; simp at hne)
        simp only at h1; subst h1
        simp only [Addr.add_lit]
        refine ⟨trivial, h2, h3, fun j v hj => ?_⟩
        rw [List.getElem?_take] at hj
        split at hj
        · rw [List.getElem?_drop] at hj
          have := h4 (l * size + j) v hj
          simpa [Nat.add_assoc] using this
        · cases hj
  · split
    · exact Iff.rfl
    · simp

/-- append(s, x...), s the call's own. -/
theorem TL.append {t elem size bytes : Nat} {x y : Operand} {base m k0 c : Nat} {v : Value} {xs news : List Value} {F : Nat → Prop} {a : Option Addr} [ht : SliceTy P t elem size bytes]
    (hx : val e x = some v) (hy : val e y = some (.slice a m c)) (hown : w.ownsRow base elem size v k0 xs) (hs : Sl F w size a m c news) (h1 : ∀ u ∈ news, u.oneCell' = true)
    (h63 : k0 + m ≤ maxLen) (hbytes : (k0 + m) * bytes ≤ 140737488355328) (hbase : base ≤ w.heap.size) (hd : Nat.blt d n = true)
    (k : ∀ v' w', w'.ownsRow base elem size v' (k0 + m) (xs ++ news) → w.grownBy w' v.ownBlock → (v' = .slice none 0 0 ↔ v = .slice none 0 0 ∧ m = 0) → TL P n ops rest ((d, v') :: e) w' Q) :
    TL P n ops (⟨some d, .call ⟨.builtin .append, #[x, y], #[t, t]⟩, ty, pos, aft, none⟩ :: rest) e w Q := by
  obtain ⟨i, z, hi, hsz, hby, hz, hzs, hne⟩ := ht.info
  cases a with
  | none =>
    have hm := hs.cap
    have hc := hs.nil rfl
    have hn : m = 0 := by omega
    subst hn
    subst hc
    have hnews : news = [] := List.eq_nil_of_length_eq_zero (by simpa using hs.len)
    subst hnews
    have hrun := run_append_owned_none (P := P) (w := w) base t ty elem i size ht.und hi v k0 xs hown
    refine TL.run (v := v) (w' := w) (fun r hr => ?_) hd (k v w (by simpa using hown) (World.grownBy.refl _ _) (by simp))
    simp [execOp, resolve, invoke, builtin, hr.eval hx, hr.eval hy, hrun]
  | some ad =>
    obtain ⟨v', w', hrun, h2, h3, h4⟩ := run_append_own (P := P) w base t ty elem i z size bytes ht.und hi hz hsz hby hzs (Nat.pos_of_ne_zero hne) v k0 xs hown ad m c news hs.len (hs.row.cell_add rfl) h1 h63 hbytes hbase
    refine TL.run (v := v') (w' := w') (fun r hr => ?_) hd (k v' w' h2 h3 h4)
    simp [execOp, resolve, invoke, builtin, hr.eval hx, hr.eval hy, hrun]

theorem run_eqNil {t e : TypeId} {a : Option Addr} {m c : Nat} (h : P.underlying t = some (.slice e)) (w : World) : (binOp .eql t (.slice a m c) (.slice none 0 0)).run P w = .ok (.bool a.isNone) w := by
  simp only [binOp]
  simp [Op.equal, Op.maxDepth, Lib.run_equalIn_slice_nil w 9999 t e a m c 0 0 h]
def boolB (P : Program) (t : TypeId) : Bool := match P.underlying t with | some .bool => true | _ => false
class BoolTy (P : Program) (t : TypeId) : Prop where
  h : boolB P t = true
theorem BoolTy.und {t : TypeId} (h : BoolTy P t) : P.underlying t = some .bool := by
  have h := h.h
  unfold boolB at h
  split at h
  · assumption
  · cases h
theorem run_equalIn_bool (dp : Nat) {t : TypeId} (h : P.underlying t = some .bool) (a b : Bool) (w : World) : (Op.equalIn (dp + 1) t (.bool a) (.bool b)).run P w = .ok (a == b) w := by
  simp [Op.equalIn, underlying, h]
/-- Two bools. -/
theorem TL.eqBool {t t2 : TypeId} {x y : Operand} {a b c : Bool} [ht : BoolTy P t] (hx : val e x = some (.bool a)) (hy : val e y = some (.bool b)) (hc : (a == b) = c) (hd : Nat.blt d n = true)
    (k : TL P n ops rest ((d, .bool c) :: e) w Q) : TL P n ops (⟨some d, .binOp .eql t x y t2, ty, pos, aft, none⟩ :: rest) e w Q :=
  TL.run (fun r hr => by
    have hg : eqGuard .eql t x y (.bool a) (.bool b) = Pure.pure () := rfl
    simp only [execOp, hr.eval hx, hr.eval hy, hg]
    simp [binOp, Op.equal, Op.maxDepth, run_equalIn_bool 9999 ht.und, ← hc]) hd k
theorem TL.neBool {t t2 : TypeId} {x y : Operand} {a b c : Bool} [ht : BoolTy P t] (hx : val e x = some (.bool a)) (hy : val e y = some (.bool b)) (hc : (a != b) = c) (hd : Nat.blt d n = true)
    (k : TL P n ops rest ((d, .bool c) :: e) w Q) : TL P n ops (⟨some d, .binOp .neq t x y t2, ty, pos, aft, none⟩ :: rest) e w Q :=
  TL.run (fun r hr => by
    have hg : eqGuard .neq t x y (.bool a) (.bool b) = Pure.pure () := rfl
    simp only [execOp, hr.eval hx, hr.eval hy, hg]
    simp only [binOp]
    simp [Op.equal, Op.maxDepth, run_equalIn_bool 9999 ht.und, ← hc, bne]) hd k

/-- A slice against nil. -/
theorem TL.eqNil {t elem size bytes : Nat} {x y : Operand} {a : Option Addr} {m c : Nat} {t2 : TypeId} [ht : SliceTy P t elem size bytes] (hx : val e x = some (.slice a m c)) (hy : val e y = some (.slice none 0 0)) (hd : Nat.blt d n = true)
    (k : TL P n ops rest ((d, .bool a.isNone) :: e) w Q) : TL P n ops (⟨some d, .binOp .eql t x y t2, ty, pos, aft, none⟩ :: rest) e w Q :=
  TL.run (fun r hr => by
    have hg : eqGuard .eql t x y (.slice a m c) (.slice none 0 0) = Pure.pure () := rfl
    simp only [execOp, hr.eval hx, hr.eval hy, hg]
    simp [run_eqNil ht.und]) hd k
theorem TL.neNil {t elem size bytes : Nat} {x y : Operand} {a : Option Addr} {m c : Nat} {t2 : TypeId} [ht : SliceTy P t elem size bytes] (hx : val e x = some (.slice a m c)) (hy : val e y = some (.slice none 0 0)) (hd : Nat.blt d n = true)
    (k : TL P n ops rest ((d, .bool (!a.isNone)) :: e) w Q) : TL P n ops (⟨some d, .binOp .neq t x y t2, ty, pos, aft, none⟩ :: rest) e w Q :=
  TL.run (fun r hr => by
    have hg : eqGuard .neq t x y (.slice a m c) (.slice none 0 0) = Pure.pure () := rfl
    simp only [execOp, hr.eval hx, hr.eval hy, hg]
    simp [run_neq_slice_nil_any w t elem a m c 0 0 ht.und]) hd k

theorem run_append_empty {t elem size bytes : Nat} (ht : SliceTy P t elem size bytes) {ty' : TypeId} {base m c : Nat} {a0 a : Option Addr} {news : List Value} {F : Nat → Prop}
    (hown : w.ownsRow base elem size (.slice a0 0 0) 0 []) (hs : Sl F w size a m c news) (h1 : ∀ u ∈ news, u.oneCell' = true) (hbytes : m * bytes ≤ 140737488355328) (hbase : base ≤ w.heap.size) :
    ∃ v' w', (Builtin.append_ #[t, t] ty' #[.slice a0 0 0, .slice a m c]).run P w = .ok v' w' ∧ w'.ownsRow base elem size v' m news ∧ Grow w w' := by
  obtain ⟨i, z, hi, hsz, hby, hz, hzs, hne⟩ := ht.info
  have h63 : m ≤ maxLen := Nat.le_trans hs.cap hs.max
  have h63' : m ≤ 9223372036854775807 := by simp only [maxLen] at h63; omega
  by_cases hm : m = 0
  · subst hm
    have hn : news = [] := List.eq_nil_of_length_eq_zero (by simpa using hs.len)
    subst hn
    refine ⟨.slice a0 0 0, w, ?_, hown, Grow.refl _⟩
    cases a0 <;> cases a <;> simp [Builtin.append_, run_underlying ht.und, sizeOf, typeInfo, hi, Builtin.lenOf, Builtin.firstCells, loadCells, loadCellsFrom, storeCells]
  · cases a with
    | none => have := hs.nil rfl; have := hs.cap; omega
    | some ad =>
      have hl := hs.len
      rw [← hsz] at hl
      cases a0 with
      | none =>
        obtain ⟨v', w', hrun, h2, h3, h4⟩ := run_append_own (P := P) w base t ty' elem i z size bytes ht.und hi hz hsz hby hzs (Nat.pos_of_ne_zero hne) _ 0 [] hown ad m c news hs.len (hs.row.cell_add rfl) h1 (by omega) (by simpa using hbytes) hbase
        refine ⟨v', w', hrun, by simpa using h2, Grow.mk ⟨h3.os, h3.tape, h3.output, h3.size, fun k hk => h3.block k hk (by simp [Value.ownBlock])⟩⟩
      | some b0 =>
        have hfit := growslice_fits (need := m) (old := 0) (bytes := bytes) (by omega) hbytes
        rw [← hby] at hfit
        have hr := run_append_grow (P := P) w t ty' elem i z ht.und hi hz b0 0 0 [] (by simp) (by simp) ad m c news hl (hs.row.cell_add rfl) (by omega) (by omega) (by simpa using hfit)
        have hge := grownCap_ge w m 0 elem
        have hcm : grownCap w m 0 elem ≤ maxLen := grownCap_le_maxLen w m 0 elem h63
        simp only [Nat.zero_add, Array.empty_append] at hr
        refine ⟨_, _, hr, ⟨hs.len, .inr ⟨w.heap.size, _, _, rfl, hbase, heap_alloc_new w.drew _, hge, hcm, ?_, ?_⟩⟩, Grow.mk ⟨rfl, rfl, rfl, by simp, fun k hk => Below.heap_alloc w.drew _ k hk⟩⟩
        · simp only [Array.size_append, List.size_toArray, List.length_nil, size_zeroCells, hzs, hs.len, Nat.zero_add, ← Nat.add_mul]
          congr 1
          omega
        · simp only [Array.toList_append, ← hs.len]
          exact List.take_left
/-- append(s, x...), s empty and without room: new memory, or s itself. -/
theorem TL.append_empty {t elem size bytes : Nat} {x y : Operand} {base m c : Nat} {a0 a : Option Addr} {news : List Value} {F : Nat → Prop} [ht : SliceTy P t elem size bytes]
    (hx : val e x = some (.slice a0 0 0)) (hy : val e y = some (.slice a m c)) (hown : w.ownsRow base elem size (.slice a0 0 0) 0 []) (hs : Sl F w size a m c news) (h1 : ∀ u ∈ news, u.oneCell' = true)
    (hbytes : m * bytes ≤ 140737488355328) (hbase : base ≤ w.heap.size) (hd : Nat.blt d n = true)
    (k : ∀ v' w', w'.ownsRow base elem size v' m news → Grow w w' → TL P n ops rest ((d, v') :: e) w' Q) :
    TL P n ops (⟨some d, .call ⟨.builtin .append, #[x, y], #[t, t]⟩, ty, pos, aft, none⟩ :: rest) e w Q := by
  obtain ⟨v', w', hrun, h2, h3⟩ := run_append_empty ht (ty' := ty) hown hs h1 hbytes hbase
  refine TL.run (v := v') (w' := w') (fun r hr => ?_) hd (k v' w' h2 h3)
  simp [execOp, resolve, invoke, builtin, hr.eval hx, hr.eval hy, hrun]
/-- An empty slice literal is the call's own. -/
theorem own_empty {base elem size b : Nat} (hb : Blk w b elem []) (hbase : base ≤ b) : w.ownsRow base elem size (.slice (some ⟨b, 0, none⟩) 0 0) 0 [] :=
  ⟨by simp, .inr ⟨b, 0, #[], rfl, hbase, by simpa [Blk] using hb, Nat.le_refl _, Nat.zero_le _, by simp, by simp⟩⟩
theorem own_lit {base elem size b m : Nat} {cs : List Value} (hb : Blk w b elem cs) (hbase : base ≤ b) (hl : cs.length = m * size) (hm : m ≤ maxLen) : w.ownsRow base elem size (.slice (some ⟨b, 0, none⟩) m m) m cs :=
  ⟨hl, .inr ⟨b, m, cs.toArray, rfl, hbase, by simpa [Blk] using hb, Nat.le_refl _, hm, by simp [hl], by simp [← hl]⟩⟩

/-- The values of a literal's parts. -/
def partsV (f : Operand → Option Value) : List (Nat × Operand) → Option (List (Nat × Value))
  | [] => some []
  | (i, x) :: r => match f x, partsV f r with
    | some v, some vs => some ((i, v) :: vs)
    | _, _ => none
theorem partsV_eval {r : Act} (hr : Fits n e r) : ∀ (ps : List (Nat × Operand)) (vs : List (Nat × Value)), partsV (val e) ps = some vs → ps.map (fun (p : Nat × Operand) => (p.1, r.eval p.2)) = vs
  | [], vs, h => by simp only [partsV, Option.some.injEq] at h; subst h; rfl
  | (i, x) :: ps, vs, h => by
    simp only [partsV] at h
    split at h
    · rename_i v vs' h1 h2
      simp only [Option.some.injEq] at h
      subst h
      simp [hr.eval h1, partsV_eval hr ps vs' h2]
    · cases h
/-- A literal, put together of its parts: the cells. -/
def fillV (ps : List (Nat × Nat)) : List Value → List (Nat × Value) → Option (List Value)
  | cs, [] => some cs
  | cs, (i, v) :: r => match ps[i]? with
    | some (off, sz) => bif Nat.beq v.cells.size sz && Nat.ble (off + v.cells.toList.length) cs.length then fillV ps (putAt cs off v.cells.toList) r else none
    | none => none

theorem length_putAt : ∀ (vs : List Value) (cs : List Value) (o : Nat), (putAt cs o vs).length = cs.length
  | [], _, _ => rfl
  | v :: vs, cs, o => by simp [putAt, length_putAt vs]

theorem foldl_set_eq (off : Nat) : ∀ (vs : List Value) (k : Nat) (cs : List Value),
    ((vs.zipIdx k).foldl (fun cs (x : Value × Nat) => cs.setIfInBounds (off + x.2) x.1) cs.toArray) = (putAt cs (off + k) vs).toArray
  | [], _, _ => rfl
  | v :: vs, k, cs => by
    simp only [List.zipIdx_cons, List.foldl_cons, List.setIfInBounds_toArray, putAt]
    rw [foldl_set_eq off vs (k + 1) (cs.set (off + k) v)]
    rw [show off + k + 1 = off + (k + 1) by omega]

theorem fill_eq {ps : List (Nat × Nat)} {pl : Nat → Option (Nat × Nat)} (hpl : ∀ i x, ps[i]? = some x → pl i = some x) : ∀ (parts : List (Nat × Value)) (cs cs' : List Value), fillV ps cs parts = some cs' →
    Instr.fill pl cs.toArray parts = some cs'.toArray
  | [], cs, cs', h => by simp only [fillV, Option.some.injEq] at h; subst h; rfl
  | (i, v) :: r, cs, cs', h => by
    simp only [fillV] at h
    cases hp : ps[i]? with
    | none => rw [hp] at h; cases h
    | some x =>
      obtain ⟨off, sz⟩ := x
      rw [hp] at h
      simp only [cond_eq_ite] at h
      split at h
      · rename_i hc
        simp only [Bool.and_eq_true] at hc
        have h1 := Nat.eq_of_beq_eq_true hc.1
        have h2 := Nat.le_of_ble_eq_true hc.2
        simp only [Instr.fill, hpl i _ hp]
        have h3 : v.cells.toList.length = v.cells.size := by simp
        rw [if_neg (by simp [h1]; rw [h3, h1] at h2; exact h2)]
        have := foldl_set_eq off v.cells.toList 0 cs
        rw [Nat.add_zero] at this
        have e2 : v.cells.zipIdx.foldl (fun cs (x : Value × Nat) => cs.setIfInBounds (off + x.2) x.1) cs.toArray = (putAt cs off v.cells.toList).toArray := by
          rw [← this, ← Array.foldl_toList]
          congr 1
          simp
        simp only [e2]
        exact fill_eq hpl r _ _ h
      · cases h

def placesB (P : Program) (t : TypeId) (ps : List (Nat × Nat)) : Bool :=
  match P.underlying t with
  | some (.struct fs) => fs.toList.map (fun f => (f.offset, ((P.info? f.type).map (·.size)).getD 0)) == ps && fs.all fun f => (P.info? f.type).isSome
  | _ => false
/-- A struct type: where its fields lie, how many cells each. -/
class Places (P : Program) (t : TypeId) (ps : outParam (List (Nat × Nat))) : Prop where
  h : placesB P t ps = true

theorem Places.run {P : Program} {t : TypeId} {ps : List (Nat × Nat)} (h : Places P t ps) : ∃ fs, P.underlying t = some (.struct fs) ∧ ∀ w, (fs.mapM fun f => do pure (f.offset, ← sizeOf f.type) : Sem (Array (Nat × Nat))).run P w = .ok ps.toArray w := by
  have h := h.h
  unfold placesB at h
  split at h
  · rename_i fs hu
    refine ⟨fs, hu, fun w => ?_⟩
    simp only [Bool.and_eq_true, beq_iff_eq] at h
    obtain ⟨h1, h2⟩ := h
    rw [Array.mapM_eq_foldlM]
    have key : ∀ (l : List Field) (acc : Array (Nat × Nat)), (∀ f ∈ l, (P.info? f.type).isSome = true) →
        (l.foldlM (fun bs f => bs.push <$> (do pure (f.offset, ← sizeOf f.type) : Sem (Nat × Nat))) acc).run P w = .ok (acc ++ (l.map (fun f => (f.offset, ((P.info? f.type).map (·.size)).getD 0))).toArray) w := by
      intro l
      induction l with
      | nil => intro acc _; simp
      | cons f l ih =>
        intro acc hl
        obtain ⟨i, hi⟩ := Option.isSome_iff_exists.1 (hl f (by simp))
        simp only [List.foldlM_cons, Sem.run_bind, Sem.run_map, sizeOf, typeInfo, run_program, Result.andThen_ok, hi, Sem.run_pure]
        have := ih (acc.push (f.offset, i.size)) (fun g hg => hl g (by simp [hg]))
        simp only [sizeOf, typeInfo] at this
        rw [this]
        simp [hi]
    have := key fs.toList #[] (fun f hf => by
      have := Array.all_eq_true_iff_forall_mem.1 h2 f (by simpa using hf)
      exact this)
    rw [← Array.foldlM_toList]
    rw [this, h1]
    simp
  · cases h

theorem TL.build {t : TypeId} {z : Value} {ps : List (Nat × Nat)} {parts : List (Nat × Operand)} {vs : List (Nat × Value)} {cs : List Value} [hz : Zero P t z] [hp : Places P t ps]
    (hx : partsV (val e) parts = some vs) (hf : fillV ps z.cells.toList vs = some cs) (hd : Nat.blt d n = true)
    (k : TL P n ops rest ((d, .agg cs.toArray) :: e) w Q) : TL P n ops (⟨some d, .build t parts.toArray, ty, pos, aft, none⟩ :: rest) e w Q := by
  obtain ⟨fs, hu, hrun⟩ := hp.run
  refine TL.run (fun r hr => ?_) hd k
  have hvs : parts.toArray.map (fun (i, x) => (i, r.eval x)) = vs.toArray := by
    simp [partsV_eval hr parts vs hx]
  have hfill : Instr.fill (ps.toArray[·]?) z.cells vs = some cs.toArray := fill_eq (pl := (ps.toArray[·]?)) (by intro i x h; simpa using h) vs _ cs hf
  simp only [execOp, hvs, Instr.build, hz.run, underlying, hu, Sem.run_bind, run_program, Result.andThen_ok, Sem.run_pure]
  rw [hrun w]
  simp only [Result.andThen_ok, hfill, Sem.run_pure]

/-- A slice literal: its cells in a new block. -/
theorem TL.buildSlice0 {t elem size bytes : Nat} [ht : SliceTy P t elem size bytes] (hd : Nat.blt d n = true)
    (k : ∀ b w', Grow w w' → Blk w' b elem [] → w.heap.size = b → w'.heap.size = b + 1 → TL P n ops rest ((d, .slice (some ⟨b, 0, none⟩) 0 0) :: e) w' Q) :
    TL P n ops (⟨some d, .buildSlice t 0 #[], ty, pos, aft, none⟩ :: rest) e w Q := by
  refine TL.run (v := .slice (some ⟨w.heap.size, 0, none⟩) 0 0) (w' := w.alloc (.cells #[] elem)) (fun r hr => ?_) hd (k _ _ (grow_alloc _) (blk_alloc [] elem) rfl (by simp))
  have e0 : Array.map (fun _ => (default : Value)) (Array.range 0) = #[] := by apply Array.ext'; simp
  simp [execOp, Instr.buildSlice, underlying, ht.und, ht.size, Instr.fill]
  rw [e0]
  simp [newRow]
theorem TL.buildSlice {t elem size bytes len : Nat} {parts : List (Nat × Operand)} {vs : List (Nat × Value)} {zs cs : List Value} {z : Value} [ht : SliceTy P t elem size bytes] [hz : Zero P elem z]
    (hx : partsV (val e) parts = some vs) (hzs : zs = (List.range (len * size)).map (fun i => z.cells[i % z.cells.size]!)) (hf : fillV ((List.range len).map fun i => (i * size, size)) zs vs = some cs)
    (hl : Nat.ble (len * size) 16777216 = true) (hd : Nat.blt d n = true)
    (k : ∀ b w', Grow w w' → Blk w' b elem cs → w.heap.size = b → w'.heap.size = b + 1 → cs.length = len * size → TL P n ops rest ((d, .slice (some ⟨b, 0, none⟩) len len) :: e) w' Q) :
    TL P n ops (⟨some d, .buildSlice t len parts.toArray, ty, pos, aft, none⟩ :: rest) e w Q := by
  have hvs : ∀ r, Fits n e r → parts.toArray.map (fun (i, x) => (i, r.eval x)) = vs.toArray := by
    intro r hr
    simp [partsV_eval hr parts vs hx]
  have hlen : ∀ (vs : List (Nat × Value)) (ps : List (Nat × Nat)) (a b : List Value), fillV ps a vs = some b → b.length = a.length := by
    intro vs ps
    induction vs with
    | nil => intro a b h; simp only [fillV, Option.some.injEq] at h; rw [h]
    | cons p vs ih =>
      intro a b h
      obtain ⟨i, v⟩ := p
      simp only [fillV] at h
      split at h
      · simp only [cond_eq_ite] at h
        split at h
        · rw [ih _ _ h, length_putAt]
        · cases h
      · cases h
  have hcl : cs.length = len * size := by rw [hlen _ _ _ _ hf, hzs]; simp
  refine TL.run (v := .slice (some ⟨w.heap.size, 0, none⟩) len len) (w' := w.alloc (.cells cs.toArray elem)) (fun r hr => ?_) hd (k _ _ (grow_alloc _) (blk_alloc cs elem) rfl (by simp) hcl)
  have hfill : Instr.fill (fun i => some (i * size, size)) zs.toArray vs = some cs.toArray := fill_eq (pl := fun i => some (i * size, size)) (by
    intro i x h
    simp only [List.getElem?_map] at h
    cases hr : (List.range len)[i]? with
    | none => simp [hr] at h
    | some j =>
      have : j = i := by simpa using (List.getElem?_eq_some_iff.1 hr).2.symm
      simp [hr, this] at h
      rw [← h]) vs _ cs hf
  have hle := Nat.le_of_ble_eq_true hl
  have hne : ¬ (2 ^ 24 < len * size) := by omega
  have hzz : zs.toArray = (Array.range (len * size)).map (fun i => z.cells[i % z.cells.size]!) := by
    rw [hzs]
    apply Array.ext'
    simp
  simp only [execOp, hvs r hr, Instr.buildSlice, underlying, ht.und, ht.size, Sem.run_bind, run_program, Result.andThen_ok, Sem.run_pure, gt_iff_lt, if_neg hne]
  by_cases h0 : len * size = 0
  · have hz0 : zs = [] := by rw [hzs, h0]; rfl
    subst hz0
    have e0 : Array.map (fun _ => (default : Value)) (Array.range 0) = #[] := by apply Array.ext'; simp
    simp [h0]
    rw [e0, hfill]
    simp [newRow]
  · simp only [h0, if_false, Sem.run_bind, hz.run, Result.andThen_ok, Sem.run_pure]
    rw [hzz] at hfill
    simp [hfill, newRow]
end rules
end Go.V
