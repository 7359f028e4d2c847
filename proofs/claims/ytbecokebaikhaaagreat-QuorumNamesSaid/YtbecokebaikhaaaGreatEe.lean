/-
  E, fifth text: memory: what the evaluator's heap says of a world; what a step may do.
-/
import Derived.Test.YtbecokebaikhaaaGreatEd
namespace Go.E
open Go Go.RowKit Go.V
set_option linter.unusedVariables false
set_option linter.unusedSimpArgs false

inductive VR (ρ : Plc) : V → Value → Prop
  | at (a : A) (v : Value) (h : AR ρ a v) : VR ρ (.at a) v
  | agg (r : Rope) (cs : List Value) (h : RR ρ r cs) : VR ρ (.agg r) (.agg cs.toArray)
  | tup (vs : List V) (xs : List Value) (hl : vs.length = xs.length) (h : ∀ (i : Nat) (v : V) (x : Value), vs[i]? = some v → xs[i]? = some x → VR ρ v x) : VR ρ (.tup vs) (.tuple xs.toArray)
  | undef : VR ρ .undef undef
theorem VR.mono {ρ ρ' : Plc} (hρ : ρ.le ρ') {v : V} {x : Value} (h : VR ρ v x) : VR ρ' v x := by
  induction h with
  | «at» a v h => exact .at a v (h.mono hρ)
  | agg r cs h => exact .agg r cs (h.mono hρ)
  | tup vs xs hl _ ih => exact .tup vs xs hl ih
  | undef => exact .undef

/-- No cell is frozen. -/
def FrOk (fr : Nat × Nat) (n : Nat) : Prop := fr.1 = fr.2 ∨ n ≤ fr.1
theorem FrOk.no {fr : Nat × Nat} {n : Nat} (h : FrOk fr n) : ∀ i, i < n → ¬ (fr.1 ≤ i ∧ i < fr.2) := fun i hi hc => by
  rcases h with h | h <;> omega
/-- Entries of a map. -/
inductive ML (ρ : Plc) : List (V × V × Nat) → List MapEntry → Prop
  | nil : ML ρ [] []
  | cons (q v : V) (n : Nat) (k x : Value) (es : List (V × V × Nat)) (L : List MapEntry) (hq : VR ρ q k) (hv : VR ρ v x) (h : ML ρ es L) : ML ρ ((q, v, n) :: es) (⟨k, x, n⟩ :: L)
theorem ML.mono {ρ ρ' : Plc} (hρ : ρ.le ρ') {es : List (V × V × Nat)} {L : List MapEntry} (h : ML ρ es L) : ML ρ' es L := by
  induction h with
  | nil => exact .nil
  | cons q v n k x es L hq hv _ ih => exact .cons _ _ _ _ _ _ _ (hq.mono hρ) (hv.mono hρ) ih
def BkR (ρ : Plc) (p : Pl) : Bk → Option Obj → Prop
  | .cells t r, o => ∃ arr fr cs, o = some (.cells arr t fr) ∧ arr.size = p.size ∧ RR ρ r cs ∧ (∀ i v, cs[i]? = some v → arr[p.sh + i]? = some v) ∧ FrOk fr arr.size
  | .map es c, o => ∃ L : List MapEntry, o = some (.map L.toArray c) ∧ ML ρ es L
theorem BkR.mono {ρ ρ' : Plc} (hρ : ρ.le ρ') {p : Pl} {B : Bk} {o : Option Obj} (h : BkR ρ p B o) : BkR ρ' p B o := by
  cases B with
  | cells t r => obtain ⟨arr, fr, cs, h1, h2, h3, h4⟩ := h; exact ⟨arr, fr, cs, h1, h2, h3.mono hρ, h4⟩
  | map es c => obtain ⟨L, h1, h2⟩ := h; exact ⟨L, h1, h2.mono hρ⟩

abbrev Hp := Nat → Option Bk
structure Rel (ρ : Plc) (g : Hp) (nx : Nat) (w : World) : Prop where
  dom : ∀ b p, ρ b = some p → b < nx ∧ p.blk < w.heap.size
  blk : ∀ b B, g b = some B → ∃ p, ρ b = some p ∧ BkR ρ p B w.heap[p.blk]?
  inj : ∀ b b' p p', g b ≠ none → g b' ≠ none → ρ b = some p → ρ b' = some p' → p.blk = p'.blk → b = b'
theorem Rel.less {ρ : Plc} {g g' : Hp} {nx : Nat} {w : World} (h : Rel ρ g nx w) (hg : ∀ b B, g' b = some B → g b = some B) : Rel ρ g' nx w :=
  ⟨h.dom, fun b B hb => h.blk b B (hg b B hb), fun b b' p p' h1 h2 => h.inj b b' p p' (by
    cases hb : g' b with
    | none => exact absurd hb h1
    | some B => rw [hg b B hb]; simp) (by
    cases hb : g' b' with
    | none => exact absurd hb h2
    | some B => rw [hg b' B hb]; simp)⟩

structure Stp (fl fd : Nat) (ρ : Plc) (g : Hp) (nx : Nat) (w : World) (ρ' : Plc) (g' : Hp) (nx' : Nat) (w' : World) : Prop where
  le : ρ.le ρ'
  nxle : nx ≤ nx'
  rel : Rel ρ' g' nx' w'
  dom : ∀ b p, ρ' b = some p → ρ b = some p ∨ nx ≤ b
  old : ∀ b, b < nx → g' b = g b ∨ (fl ≤ b ∧ g b ≠ none) ∨ (fd ≤ b ∧ g' b = none)
  live : ∀ b p, g' b ≠ none → ρ' b = some p → (g b ≠ none ∧ ρ b = some p) ∨ (nx ≤ b ∧ (w.heap.size ≤ p.blk ∨ ∃ b0 p0, fd ≤ b0 ∧ g b0 ≠ none ∧ ρ b0 = some p0 ∧ p0.blk = p.blk))
  os : w'.os = w.os
  tape : w'.tape = w.tape
  output : w'.output = w.output
  size : w.heap.size ≤ w'.heap.size
  fr : ∀ k, k < w.heap.size → (∀ b p, (fl ≤ b ∨ (fd ≤ b ∧ g' b = none)) → g b ≠ none → ρ b = some p → p.blk ≠ k) → w'.heap[k]? = w.heap[k]?
theorem Stp.refl {fl fd : Nat} {ρ : Plc} {g : Hp} {nx : Nat} {w : World} (h : Rel ρ g nx w) : Stp fl fd ρ g nx w ρ g nx w :=
  ⟨fun _ _ h => h, Nat.le_refl _, h, fun _ _ h => .inl h, fun _ _ => .inl rfl, fun b p h1 h2 => .inl ⟨h1, h2⟩, rfl, rfl, rfl, Nat.le_refl _, fun _ _ _ => rfl⟩
theorem Stp.trans {fl fd : Nat} {ρ ρ1 ρ2 : Plc} {g g1 g2 : Hp} {nx nx1 nx2 : Nat} {w w1 w2 : World} (h : Stp fl fd ρ g nx w ρ1 g1 nx1 w1) (k : Stp fl fd ρ1 g1 nx1 w1 ρ2 g2 nx2 w2) (hf : fd ≤ fl) : Stp fl fd ρ g nx w ρ2 g2 nx2 w2 where
  le := fun b p hb => k.le _ _ (h.le _ _ hb)
  nxle := Nat.le_trans h.nxle k.nxle
  rel := k.rel
  dom := fun b p hb => by
    rcases k.dom b p hb with h1 | h1
    · exact h.dom b p h1
    · exact .inr (Nat.le_trans h.nxle h1)
  old := fun b hb => by
    rcases k.old b (Nat.lt_of_lt_of_le hb h.nxle) with h1 | ⟨h1, h2⟩ | h1
    · rcases h.old b hb with h3 | h3 | ⟨h3, h4⟩
      · exact .inl (h1.trans h3)
      · exact .inr (.inl h3)
      · exact .inr (.inr ⟨h3, h1.trans h4⟩)
    · rcases h.old b hb with h3 | h3 | ⟨h3, h4⟩
      · exact .inr (.inl ⟨h1, h3 ▸ h2⟩)
      · exact .inr (.inl h3)
      · exact absurd h4 h2
    · exact .inr (.inr h1)
  live := fun b p h1 h2 => by
    rcases k.live b p h1 h2 with ⟨h3, h4⟩ | ⟨h3, h4⟩
    · rcases h.live b p h3 h4 with h5 | ⟨h5, h6 | ⟨b0, p0, h6, h7, h8, h9⟩⟩
      · exact .inl h5
      · exact .inr ⟨h5, .inl h6⟩
      · exact .inr ⟨h5, .inr ⟨b0, p0, h6, h7, h8, h9⟩⟩
    · refine .inr ⟨Nat.le_trans h.nxle h3, ?_⟩
      rcases h4 with h4 | ⟨b0, p0, h5, h6, h8, h9⟩
      · exact .inl (Nat.le_trans h.size h4)
      · rcases h.live b0 p0 h6 h8 with ⟨h10, h11⟩ | ⟨h10, h11 | ⟨b1, p1, q1, q2, q4, q5⟩⟩
        · exact .inr ⟨b0, p0, h5, h10, h11, h9⟩
        · exact .inl (h9 ▸ h11)
        · exact .inr ⟨b1, p1, q1, q2, q4, q5.trans h9⟩
  os := k.os.trans h.os
  tape := k.tape.trans h.tape
  output := k.output.trans h.output
  size := Nat.le_trans h.size k.size
  fr := fun i hi hb => by
    have aux : ∀ b p, ρ1 b = some p → g1 b = none → g2 b = none := fun b p hp h1 => by
      rcases k.old b (h.rel.dom b p hp).1 with h2 | ⟨_, h2⟩ | ⟨_, h2⟩
      · rw [h2, h1]
      · exact absurd h1 h2
      · exact h2
    rw [k.fr i (Nat.lt_of_lt_of_le hi h.size) ?_, h.fr i hi fun b p hd hg hp => hb b p (hd.imp id fun ⟨h1, h2⟩ => ⟨h1, aux b p (h.le _ _ hp) h2⟩) hg hp]
    intro b p hd hg hp
    rcases h.live b p hg hp with ⟨h1, h2⟩ | ⟨h1, h2 | ⟨b0, p0, h3, h4, h6, h7⟩⟩
    · exact hb b p hd h1 h2
    · omega
    · cases hg1 : g1 b0 with
      | none => exact h7 ▸ hb b0 p0 (.inr ⟨h3, aux b0 p0 (h.le _ _ h6) hg1⟩) h4 h6
      | some B =>
        have e := h.rel.inj b b0 p p0 hg (by rw [hg1]; simp) hp (h.le _ _ h6) h7.symm
        subst e
        exact h7 ▸ hb b p0 hd h4 h6

/-- A new block. -/
theorem stp_new {fl fd : Nat} {ρ : Plc} {g g' : Hp} {nx : Nat} {w w' : World} (h : Rel ρ g nx w) {arr : Array Value} {t : TypeId} {fr : Nat × Nat} {r : Rope} {cs : List Value}
    (hr : RR ρ r cs) (hc : ∀ (i : Nat) (v : Value), cs[i]? = some v → arr[i]? = some v) (hfr : FrOk fr arr.size)
    (hw : w'.heap = w.heap.push (.cells arr t fr)) (h1 : w'.os = w.os) (h2 : w'.tape = w.tape) (h3 : w'.output = w.output)
    (hg : ∀ j, g' j = if j = nx then some (.cells t r) else g j) :
    Stp fl fd ρ g nx w (fun b => if b = nx then some ⟨w.heap.size, 0, arr.size⟩ else ρ b) g' (nx + 1) w' := by
  have hle : ρ.le (fun b => if b = nx then some ⟨w.heap.size, 0, arr.size⟩ else ρ b) := fun b p hp => by
    have := (h.dom b p hp).1
    try simp only
    rw [if_neg (by omega)]; exact hp
  have hold : ∀ k, k < w.heap.size → w'.heap[k]? = w.heap[k]? := fun k hk => by
    rw [hw, Array.getElem?_push]; rw [if_neg (by omega)]
  have hgl : ∀ b, g b ≠ none → ∃ p, ρ b = some p := fun b hb => by
    cases hgb : g b with
    | none => exact absurd hgb hb
    | some B => obtain ⟨p, hp, _⟩ := h.blk b B hgb; exact ⟨p, hp⟩
  refine ⟨hle, by omega, ⟨fun b p hp => ?_, fun b B hB => ?_, fun b b' p p' hb hb' hp hp' he => ?_⟩, fun b p hp => ?_, fun b hb => ?_, fun b p hb hp => ?_, h1, h2, h3, by rw [hw]; simp, fun k hk _ => hold k hk⟩
  · try simp only at hp
    split at hp
    · cases hp; rw [hw]; simp; omega
    · have := h.dom b p hp; rw [hw]; simp; omega
  · rw [hg] at hB
    split at hB
    · rename_i hb
      cases hB
      refine ⟨_, by (try simp only); rw [if_pos hb], arr, fr, cs, by rw [hw]; simp, rfl, hr.mono hle, fun i v hv => by simpa using hc i v hv, hfr⟩
    · obtain ⟨p, hp, hb⟩ := h.blk b B hB
      refine ⟨p, hle _ _ hp, ?_⟩
      rw [hold _ (h.dom b p hp).2]
      exact hb.mono hle
  · try simp only at hp hp'
    rw [hg] at hb hb'
    split at hp <;> split at hp'
    · rename_i x y; rw [x, y]
    · cases hp
      have := (h.dom b' p' hp').2
      (try simp only at he); omega
    · cases hp'
      have := (h.dom b p hp).2
      (try simp only at he); omega
    · rename_i x y
      rw [if_neg x] at hb
      rw [if_neg y] at hb'
      exact h.inj b b' p p' hb hb' hp hp' he
  · try simp only at hp
    split at hp
    · right; omega
    · left; exact hp
  · left; rw [hg, if_neg (by omega)]
  · try simp only at hp
    rw [hg] at hb
    split at hp
    · cases hp; right; rename_i x; exact ⟨by omega, .inl (Nat.le_refl _)⟩
    · rename_i x; rw [if_neg x] at hb; exact .inl ⟨hb, hp⟩
/-- A block written. -/
theorem stp_set {fl fd : Nat} {ρ : Plc} {g g' : Hp} {nx : Nat} {w w' : World} (h : Rel ρ g nx w) {b : Nat} {p : Pl} {arr : Array Value} {t : TypeId} {fr : Nat × Nat} {r r0 : Rope} {cs : List Value}
    (hb : g b = some (.cells t r0)) (hp : ρ b = some p) (hfl : fl ≤ b) (hr : RR ρ r cs) (hc : ∀ (i : Nat) (v : Value), cs[i]? = some v → arr[p.sh + i]? = some v) (hfr : FrOk fr arr.size)
    (hs : arr.size = p.size) (hw : w'.heap[p.blk]? = some (.cells arr t fr)) (hu : Upd p.blk w w') (hg : ∀ j, g' j = if j = b then some (.cells t r) else g j) :
    Stp fl fd ρ g nx w ρ g' nx w' := by
  have live : ∀ c, g' c ≠ none → g c ≠ none := fun c hc => by
    rw [hg] at hc
    split at hc
    · rename_i x; rw [x, hb]; simp
    · exact hc
  refine ⟨fun _ _ h => h, Nat.le_refl _, ⟨fun c q hq => ?_, fun c B hB => ?_, fun c c' q q' h1 h2 => h.inj c c' q q' (live c h1) (live c' h2)⟩, fun _ _ h => .inl h, fun c hc => ?_, fun c q h1 h2 => .inl ⟨live c h1, h2⟩, hu.os, hu.tape, hu.output, Nat.le_of_eq hu.size.symm, fun k hk hkb => ?_⟩
  · rw [hu.size]; exact h.dom c q hq
  · rw [hg] at hB
    split at hB
    · rename_i x
      cases hB
      subst x
      exact ⟨p, hp, arr, fr, cs, hw, hs, hr, hc, hfr⟩
    · rename_i x
      obtain ⟨q, hq, hbk⟩ := h.blk c B hB
      refine ⟨q, hq, ?_⟩
      rw [hu.block]
      · exact hbk
      · intro e
        exact x (h.inj c b q p (by rw [hB]; simp) (by rw [hb]; simp) hq hp e)
  · by_cases x : c = b
    · right; left; subst x; exact ⟨hfl, by rw [hb]; simp⟩
    · left; rw [hg, if_neg x]
  · exact hu.block k (fun e => hkb b p (.inl hfl) (by rw [hb]; simp) hp e.symm)

/-- A new block. -/
theorem stp_newB {fl fd : Nat} {ρ : Plc} {g g' : Hp} {nx : Nat} {w w' : World} (h : Rel ρ g nx w) {ob : Obj} {sz : Nat} {B0 : Bk}
    (hB0 : ∀ ρ' : Plc, ρ.le ρ' → BkR ρ' ⟨w.heap.size, 0, sz⟩ B0 (some ob))
    (hw : w'.heap = w.heap.push ob) (h1 : w'.os = w.os) (h2 : w'.tape = w.tape) (h3 : w'.output = w.output)
    (hg : ∀ j, g' j = if j = nx then some B0 else g j) :
    Stp fl fd ρ g nx w (fun b => if b = nx then some ⟨w.heap.size, 0, sz⟩ else ρ b) g' (nx + 1) w' := by
  have hle : ρ.le (fun b => if b = nx then some ⟨w.heap.size, 0, sz⟩ else ρ b) := fun b p hp => by
    have := (h.dom b p hp).1
    try simp only
    rw [if_neg (by omega)]; exact hp
  have hold : ∀ k, k < w.heap.size → w'.heap[k]? = w.heap[k]? := fun k hk => by
    rw [hw, Array.getElem?_push]; rw [if_neg (by omega)]
  have hgl : ∀ b, g b ≠ none → ∃ p, ρ b = some p := fun b hb => by
    cases hgb : g b with
    | none => exact absurd hgb hb
    | some B => obtain ⟨p, hp, _⟩ := h.blk b B hgb; exact ⟨p, hp⟩
  refine ⟨hle, by omega, ⟨fun b p hp => ?_, fun b B hB => ?_, fun b b' p p' hb hb' hp hp' he => ?_⟩, fun b p hp => ?_, fun b hb => ?_, fun b p hb hp => ?_, h1, h2, h3, by rw [hw]; simp, fun k hk _ => hold k hk⟩
  · try simp only at hp
    split at hp
    · cases hp; rw [hw]; simp; omega
    · have := h.dom b p hp; rw [hw]; simp; omega
  · rw [hg] at hB
    split at hB
    · rename_i hb
      cases hB
      refine ⟨_, by (try simp only); rw [if_pos hb], ?_⟩
      have e : w'.heap[w.heap.size]? = some ob := by rw [hw]; simp
      rw [e]
      exact hB0 _ hle
    · obtain ⟨p, hp, hb⟩ := h.blk b B hB
      refine ⟨p, hle _ _ hp, ?_⟩
      rw [hold _ (h.dom b p hp).2]
      exact hb.mono hle
  · try simp only at hp hp'
    rw [hg] at hb hb'
    split at hp <;> split at hp'
    · rename_i x y; rw [x, y]
    · cases hp
      have := (h.dom b' p' hp').2
      (try simp only at he); omega
    · cases hp'
      have := (h.dom b p hp).2
      (try simp only at he); omega
    · rename_i x y
      rw [if_neg x] at hb
      rw [if_neg y] at hb'
      exact h.inj b b' p p' hb hb' hp hp' he
  · try simp only at hp
    split at hp
    · right; omega
    · left; exact hp
  · left; rw [hg, if_neg (by omega)]
  · try simp only at hp
    rw [hg] at hb
    split at hp
    · cases hp; right; rename_i x; exact ⟨by omega, .inl (Nat.le_refl _)⟩
    · rename_i x; rw [if_neg x] at hb; exact .inl ⟨hb, hp⟩
/-- A block written. -/
theorem stp_setB {fl fd : Nat} {ρ : Plc} {g g' : Hp} {nx : Nat} {w w' : World} (h : Rel ρ g nx w) {b : Nat} {p : Pl} {ob : Obj} {B0 B1 : Bk}
    (hb : g b = some B0) (hp : ρ b = some p) (hfl : fl ≤ b) (hB1 : BkR ρ p B1 (some ob))
    (hw : w'.heap[p.blk]? = some ob) (hu : Upd p.blk w w') (hg : ∀ j, g' j = if j = b then some B1 else g j) :
    Stp fl fd ρ g nx w ρ g' nx w' := by
  have live : ∀ c, g' c ≠ none → g c ≠ none := fun c hc => by
    rw [hg] at hc
    split at hc
    · rename_i x; rw [x, hb]; simp
    · exact hc
  refine ⟨fun _ _ h => h, Nat.le_refl _, ⟨fun c q hq => ?_, fun c B hB => ?_, fun c c' q q' h1 h2 => h.inj c c' q q' (live c h1) (live c' h2)⟩, fun _ _ h => .inl h, fun c hc => ?_, fun c q h1 h2 => .inl ⟨live c h1, h2⟩, hu.os, hu.tape, hu.output, Nat.le_of_eq hu.size.symm, fun k hk hkb => ?_⟩
  · rw [hu.size]; exact h.dom c q hq
  · rw [hg] at hB
    split at hB
    · rename_i x
      cases hB
      subst x
      refine ⟨p, hp, ?_⟩
      rw [hw]
      exact hB1
    · rename_i x
      obtain ⟨q, hq, hbk⟩ := h.blk c B hB
      refine ⟨q, hq, ?_⟩
      rw [hu.block]
      · exact hbk
      · intro e
        exact x (h.inj c b q p (by rw [hB]; simp) (by rw [hb]; simp) hq hp e)
  · by_cases x : c = b
    · right; left; subst x; exact ⟨hfl, by rw [hb]; simp⟩
    · left; rw [hg, if_neg x]
  · exact hu.block k (fun e => hkb b p (.inl hfl) (by rw [hb]; simp) hp e.symm)

section run
variable {P : Program} {w : World}
/-- Cells stored, one after the other. -/
theorem run_storeCells_any {k : Nat} {t : TypeId} {fr : Nat × Nat} : ∀ (vs : List Value) (o i : Nat) (arr : Array Value) (w : World), w.heap[k]? = some (.cells arr t fr) → (∀ i, i < arr.size → ¬ (fr.1 ≤ i ∧ i < fr.2)) → o + i + vs.length ≤ arr.size →
    (∀ v ∈ vs, v.oneCell' = true) → ∃ w' arr', (storeCells ⟨k, o, none⟩ vs i).run P w = .ok () w' ∧ Upd k w w' ∧ w'.heap[k]? = some (.cells arr' t fr) ∧ arr'.size = arr.size ∧
      ∀ j, arr'[j]? = if o + i ≤ j ∧ j < o + i + vs.length then vs[j - (o + i)]? else arr[j]? := by
  intro vs
  induction vs with
  | nil => intro o i arr w h _ _ _; exact ⟨w, arr, rfl, Upd.refl k w, h, rfl, fun j => by rw [if_neg (by simp <;> omega)]⟩
  | cons v vs ih =>
    intro o i arr w h hfr hl h1
    have ha : (⟨k, o, none⟩ : Addr).add i = ⟨k, o + i, none⟩ := Addr.add_lit ..
    have hlt : o + i < arr.size := by simp at hl; omega
    have hc : w.cell? ⟨k, o + i, none⟩ = some arr[o + i] := by simp [World.cell?, h, hlt]
    have hf : w.frozen? ⟨k, o + i, none⟩ = false := by
      have := hfr (o + i) hlt
      simp only [World.frozen?, h]
      simpa using this
    have hst : (store ⟨k, o + i, none⟩ v .plain).run P w = .ok () (w.setCell ⟨k, o + i, none⟩ v) := by
      rw [run_store P w _ v .plain (h1 v (by simp))]
      simp only [hc, hf, Bool.false_eq_true, if_false]
    have hw2 : (w.setCell ⟨k, o + i, none⟩ v).heap[k]? = some (.cells (arr.setIfInBounds (o + i) v) t fr) := by
      simp only [World.setCell, Array.getElem?_modify, if_true, h, Option.map_some]
      simp
    obtain ⟨w', arr', hr, hu, hb, hs, hj⟩ := ih o (i + 1) (arr.setIfInBounds (o + i) v) _ hw2 (by simpa using hfr) (by simp at hl ⊢; omega) (fun u hu => h1 u (by simp [hu]))
    refine ⟨w', arr', ?_, (upd_setCell k (o + i) v).trans hu, hb, by simpa using hs, fun j => ?_⟩
    · simp only [storeCells, ha, Sem.run_bind, hst, Result.andThen_ok]
      exact hr
    · rw [hj]
      by_cases c1 : j = o + i
      · subst c1
        rw [if_neg (by omega), if_pos (by simp), Array.getElem?_setIfInBounds]
        simp [hlt]
      · by_cases c2 : o + i + 1 ≤ j ∧ j < o + i + 1 + vs.length
        · rw [if_pos (by omega), if_pos (by simp <;> omega)]
          rw [show j - (o + i) = (j - (o + (i + 1))) + 1 by omega]
          simp
        · rw [if_neg (by omega), if_neg (by simp <;> omega), Array.getElem?_setIfInBounds_ne (by omega)]
end run
end Go.E
