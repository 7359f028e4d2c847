/-
  E, eleventh text: append, copy; Go's own functions.
-/
import Derived.Test.YtbecokebaikhaaaGreatEj
namespace Go.E
open Go Go.RowKit Go.V
set_option linter.unusedVariables false
set_option linter.unusedSimpArgs false
section
variable {R : Type} {bad : R} {P : Program} {fl fd : Nat} {env : En} {h : H} {nx : Nat}
def notIntD : TypeDesc → Bool
  | .slice _ => true
  | .string => true
  | _ => false
theorem notInt_ok {t : TypeId} {ti : TI} (hT : TyOk P t ti) (h : notInt ti.k = true) : ∃ u, P.underlying t = some u ∧ notIntD u = true := by
  obtain ⟨u, hu, hd⟩ := hT.u
  refine ⟨u, hu, ?_⟩
  cases hk : ti.k <;> rw [hk] at h hd <;> first | (cases h; done) | skip
  all_goals (cases u <;> first | rfl | cases hd)
/-- append in the room that there is. -/
theorem run_append_room' {t t2 ty e : TypeId} {te : TI} {u2 : TypeDesc} (hu : P.underlying t = some (.slice e)) (hte : TyOk P e te) (hu2 : P.underlying t2 = some u2) (hn2 : notIntD u2 = true) {base : Option Addr} {l c n : Nat} {x : Value} {qs : List Value} {w : World}
    (hlen : (Builtin.lenOf x).run P w = .ok n w) (hq : (Builtin.firstCells te.size n x).run P w = .ok qs.toArray w) (hroom : l + n ≤ c) :
    (∀ w', (∀ a, base = some a → (storeCells (a.add (l * te.size)) qs).run P w = .ok () w') → (base = none → w' = w) → (Builtin.append_ #[t, t2] ty #[.slice base l c, x]).run P w = .ok (.slice base (l + n) c) w') := by
  intro w' h1 h2
  have e1 : (underlying t2).run P w = .ok u2 w := by simp [underlying, hu2]
  have e2 : (match u2 with | .int _ => true | _ => false) = false := by cases u2 <;> first | rfl | cases hn2
  cases base with
  | none =>
    have := h2 rfl
    subst this
    cases u2 <;> first | (cases hn2; done) | simp [Builtin.append_, underlying, hu, hu2, hte.run_size, hlen, hq, hroom]
  | some a =>
    have := h1 a rfl
    cases u2 <;> first | (cases hn2; done) | simp [Builtin.append_, underlying, hu, hu2, hte.run_size, hlen, hq, hroom, this]
theorem run_append_grow' {t t2 ty e : TypeId} {te : TI} {u2 : TypeDesc} (hu : P.underlying t = some (.slice e)) (hte : TyOk P e te) (hu2 : P.underlying t2 = some u2) (hn2 : notIntD u2 = true) {base : Option Addr} {l c n : Nat} {x : Value} {olds qs : List Value} {w : World}
    (hlen : (Builtin.lenOf x).run P w = .ok n w) (hq : (Builtin.firstCells te.size n x).run P w.drew = .ok qs.toArray w.drew) (ho : (Builtin.firstCells te.size l (.slice base l c)).run P w.drew = .ok olds.toArray w.drew) (hg : c < l + n) (hfit : fitsB te (l + n) = true) :
    ∃ zs : Array Value, zs.size = (grownCap w (l + n) c e - (l + n)) * te.size ∧ (Builtin.append_ #[t, t2] ty #[.slice base l c, x]).run P w =
      .ok (.slice (some ⟨w.heap.size, 0, none⟩) (l + n) (grownCap w (l + n) c e)) (w.drew.alloc (.cells (olds.toArray ++ qs.toArray ++ zs) e)) := by
  obtain ⟨f0, f1⟩ := two_t hfit
  obtain ⟨f1, f2⟩ := two_t f1
  have f1 : l + n ≤ 1000000000000 := Nat.le_of_ble_eq_true f1
  have f2 : (l + n) * te.bytes ≤ 140737488355328 := Nat.le_of_ble_eq_true f2
  obtain ⟨i, z, hi, hs, hb, hz, hza, hzs, hzr⟩ := hte.i
  have hfits := growslice_fits (need := l + n) (old := c) (bytes := te.bytes) hg f2
  have hn : ¬ (l + n ≤ c) := by omega
  have h63' : ¬ (9223372036854775807 < ((l : Int) + (n : Int))) := by omega
  have h48' : ¬ (281474976710656 < Builtin.nextslicecap (l + n) c * te.bytes) := by omega
  refine ⟨Builtin.zeroCells z.cells (grownCap w (l + n) c e - (l + n)), by rw [size_zeroCells, hzs], ?_⟩
  rw [← hs] at hq ho
  cases u2 <;> first | (cases hn2; done) | (simp [Builtin.append_, underlying, hu, hu2, sizeOf, typeInfo, zeroValue, hi, hz, hb, hlen, hn, h63', h48', Question.forced, hq, ho, newRow, grownCap]; congr 2; apply Array.ext'; simp)
/-- An end to a block. -/
theorem stp_del {ρ : Plc} {g g' : Hp} {nx : Nat} {w : World} (hr : Rel ρ g nx w) {b : Nat} (hfd : fd ≤ b) (hg : ∀ j, g' j = if j = b then none else g j) : Stp fl fd ρ g nx w ρ g' nx w := by
  have live : ∀ c B, g' c = some B → g c = some B := fun c B hc => by
    rw [hg] at hc
    split at hc
    · cases hc
    · exact hc
  refine ⟨fun _ _ h => h, Nat.le_refl _, hr.less live, fun _ _ h => .inl h, fun c hc => ?_, fun c q h1 h2 => .inl ⟨?_, h2⟩, rfl, rfl, rfl, Nat.le_refl _, fun _ _ _ => rfl⟩
  · by_cases x : c = b
    · right; right; rw [hg, if_pos x]; exact ⟨x ▸ hfd, rfl⟩
    · left; rw [hg, if_neg x]
  · cases hc : g' c with
    | none => exact absurd hc h1
    | some B => rw [live c B hc]; simp
/-- A block goes on under a new number, written to. -/
theorem stp_move {ρ : Plc} {g g' : Hp} {nx : Nat} {w w' : World} (hr : Rel ρ g nx w) {b o' : Nat} {p : Pl} {arr : Array Value} {t : TypeId} {fr : Nat × Nat} {r r0 : Rope} {cs : List Value}
    (hb : g b = some (.cells t r0)) (hp : ρ b = some p) (hfd : fd ≤ b) (hrr : RR ρ r cs) (hc : ∀ (i : Nat) (v : Value), cs[i]? = some v → arr[o' + i]? = some v) (hfr : FrOk fr arr.size)
    (hs : arr.size = p.size) (hw : w'.heap[p.blk]? = some (.cells arr t fr)) (hu : Upd p.blk w w') (hg : ∀ j, g' j = if j = nx then some (.cells t r) else if j = b then none else g j) :
    Stp fl fd ρ g nx w (fun j => if j = nx then some ⟨p.blk, o', p.size⟩ else ρ j) g' (nx + 1) w' := by
  have hbn : b < nx := (hr.dom b p hp).1
  have hle : ρ.le (fun j => if j = nx then some ⟨p.blk, o', p.size⟩ else ρ j) := fun c q hq => by
    have := (hr.dom c q hq).1
    show (if c = nx then _ else ρ c) = _
    rw [if_neg (by omega)]; exact hq
  have live : ∀ c, c ≠ nx → g' c ≠ none → g c ≠ none ∧ c ≠ b := fun c hcn hc => by
    rw [hg, if_neg hcn] at hc
    split at hc
    · exact absurd rfl hc
    · rename_i x; exact ⟨hc, x⟩
  have hbg : g b ≠ none := by rw [hb]; simp
  refine ⟨hle, by omega, ⟨fun c q hq => ?_, fun c B hB => ?_, fun c c' q q' h1 h2 h3 h4 he => ?_⟩, fun c q hq => ?_, fun c hc => ?_, fun c q h1 h2 => ?_, hu.os, hu.tape, hu.output, Nat.le_of_eq hu.size.symm, fun k hk hkb => ?_⟩
  · have hq : (if c = nx then some ⟨p.blk, o', p.size⟩ else ρ c) = some q := hq
    split at hq
    · cases hq; rw [hu.size]; exact ⟨by omega, (hr.dom b p hp).2⟩
    · have := hr.dom c q hq; rw [hu.size]; exact ⟨by omega, this.2⟩
  · rw [hg] at hB
    split at hB
    · rename_i x
      cases hB
      exact ⟨⟨p.blk, o', p.size⟩, by show (if c = nx then _ else ρ c) = _; rw [if_pos x], arr, fr, cs, hw, hs, hrr.mono hle, hc, hfr⟩
    · split at hB
      · cases hB
      · rename_i x y
        obtain ⟨q, hq, hbk⟩ := hr.blk c B hB
        refine ⟨q, hle _ _ hq, ?_⟩
        rw [hu.block]
        · exact hbk.mono hle
        · intro e
          exact y (hr.inj c b q p (by rw [hB]; simp) hbg hq hp e)
  · have h3 : (if c = nx then some ⟨p.blk, o', p.size⟩ else ρ c) = some q := h3
    have h4 : (if c' = nx then some ⟨p.blk, o', p.size⟩ else ρ c') = some q' := h4
    by_cases x : c = nx <;> by_cases y : c' = nx
    · rw [x, y]
    · exfalso
      rw [if_pos x] at h3
      rw [if_neg y] at h4
      cases h3
      obtain ⟨l1, l2⟩ := live c' y h2
      exact l2 (hr.inj c' b q' p l1 hbg h4 hp he.symm)
    · exfalso
      rw [if_neg x] at h3
      rw [if_pos y] at h4
      cases h4
      obtain ⟨l1, l2⟩ := live c x h1
      exact l2 (hr.inj c b q p l1 hbg h3 hp he)
    · rw [if_neg x] at h3
      rw [if_neg y] at h4
      exact hr.inj c c' q q' (live c x h1).1 (live c' y h2).1 h3 h4 he
  · have hq : (if c = nx then some ⟨p.blk, o', p.size⟩ else ρ c) = some q := hq
    split at hq
    · right; omega
    · left; exact hq
  · by_cases x : c = b
    · right; right; rw [hg, if_neg (by omega), if_pos x]; exact ⟨x ▸ hfd, rfl⟩
    · left; rw [hg, if_neg (by omega), if_neg x]
  · have h2 : (if c = nx then some ⟨p.blk, o', p.size⟩ else ρ c) = some q := h2
    by_cases x : c = nx
    · rw [if_pos x] at h2
      cases h2
      exact .inr ⟨by omega, .inr ⟨b, p, hfd, hbg, hp, rfl⟩⟩
    · rw [if_neg x] at h2
      exact .inl ⟨(live c x h1).1, h2⟩
  · exact hu.block k (fun e => hkb b p (.inr ⟨hfd, by rw [hg, if_neg (by omega), if_pos rfl]⟩) hbg hp e.symm)
theorem delK_ok (b : Nat) (k : H → R) : Ok1 bad (delK bad h b k) k fun h' => ∀ j, h'.get j = if j = b then none else h.get j := Tr.get_put 64 h b none k
theorem drew_heap (w : World) : w.drew.heap = w.heap := rfl
theorem zero_mul' {n z : Nat} (h : n = 0) : n * z = 0 := by subst h; simp
/-- What append is handed. -/
def Src (P : Program) (ρ : Plc) (w : World) (z n : Nat) (q : Rope) (x : Value) : Prop :=
  (Builtin.lenOf x).run P w = .ok n w ∧ ∃ qs, RR ρ q qs ∧ qs.length = n * z ∧ ∀ w', w'.heap = w.heap → (Builtin.firstCells z n x).run P w' = .ok (List.toArray qs) w'
def AppOk (P : Program) (fl fd : Nat) (t t2 : TypeId) (te : TI) (h : H) (nx : Nat) (s : A) (n : Nat) (q : Rope) (v : V) (h' : H) (nx' : Nat) : Prop :=
  ∀ ρ w s' x ty, AR ρ s s' → Rel ρ h.get nx w → Src P ρ w te.size n q x → ∃ y ρ' w', (Builtin.append_ #[t, t2] ty #[s', x]).run P w = .ok y w' ∧ VR ρ' v y ∧ Stp fl fd ρ h.get nx w ρ' h'.get nx' w'
theorem grown_ok {t t2 e : TypeId} {te : TI} {u2 : TypeDesc} (hu : P.underlying t = some (.slice e)) (hte : TyOk P e te) (hu2 : P.underlying t2 = some u2) (hn2 : notIntD u2 = true) {n l c : Nat} {q r : Rope} {h' : H} {ρ : Plc} {w : World} {base : Option Addr} {x : Value} {olds : List Value} {ty : TypeId}
    (hr : Rel ρ h.get nx w) (hsrc : Src P ρ w te.size n q x) (hlo : olds.length = l * te.size) (ho : (Builtin.firstCells te.size l (.slice base l c)).run P w.drew = .ok olds.toArray w.drew) (hg : c < l + n) (hfit : fitsB te (l + n) = true)
    (hrr : ∀ qs, RR ρ q qs → qs.length = n * te.size → RR ρ r (olds ++ qs)) (hget : ∀ j, h'.get j = if j = nx then some (.cells e r) else h.get j) :
    ∃ y ρ' w', (Builtin.append_ #[t, t2] ty #[.slice base l c, x]).run P w = .ok y w' ∧ VR ρ' (.at (.slu nx 0 (l + n) te.size)) y ∧ Stp fl fd ρ h.get nx w ρ' h'.get (nx + 1) w' := by
  obtain ⟨hlen, qs, hq1, hq2, hq3⟩ := hsrc
  obtain ⟨zs, hzs, hrun⟩ := run_append_grow' (ty := ty) hu hte hu2 hn2 hlen (hq3 w.drew rfl) ho hg hfit
  obtain ⟨f0, f1⟩ := two_t hfit
  obtain ⟨f1, f2⟩ := two_t f1
  have f1 : l + n ≤ 1000000000000 := Nat.le_of_ble_eq_true f1
  have hge := grownCap_ge w (l + n) c e
  have hle := grownCap_le_maxLen w (l + n) c e (Nat.le_trans f1 (by decide))
  have hsz : (olds.toArray ++ qs.toArray ++ zs).size = grownCap w (l + n) c e * te.size := by
    simp only [Array.size_append, List.size_toArray, hlo, hq2, hzs, ← Nat.add_mul]
    congr 1; omega
  refine ⟨_, _, _, hrun, .at _ _ (.slu _ _ _ _ (grownCap w (l + n) c e) 0 ⟨w.heap.size, 0, (olds.toArray ++ qs.toArray ++ zs).size⟩ ?_ hge hle (.inl rfl) (by show 0 + grownCap w (l + n) c e * te.size ≤ (olds.toArray ++ qs.toArray ++ zs).size; rw [hsz]; omega)),
    stp_new hr (cs := olds ++ qs) (hrr qs hq1 hq2) (fun i v hv => ?_) (.inl rfl) rfl rfl rfl rfl hget⟩
  · show (if nx = nx then _ else _) = _
    rw [if_pos rfl]
  · have hi := (List.getElem?_eq_some_iff.1 hv).1
    rw [Array.getElem?_append_left (by simp; simp at hi; exact hi)]
    simpa using hv
theorem appK_ok (m : Bool) {t t2 e : TypeId} {te : TI} {u2 : TypeDesc} (hf : fd ≤ fl) (hu : P.underlying t = some (.slice e)) (hte : TyOk P e te) (hu2 : P.underlying t2 = some u2) (hn2 : notIntD u2 = true) (s : A) (n : Nat) (q : Rope) (k : V → H → Nat → R) :
    Out bad (appK bad m fl fd h nx e te s n q k) fun e' => ∃ v h' nx', AppOk P fl fd t t2 te h nx s n q v h' nx' ∧ e' = k v h' nx' := by
  unfold appK
  split
  · -- nil
    cases hn : Nat.beq n 0 with
    | true =>
      have hn := Nat.eq_of_beq_eq_true hn
      subst hn
      refine .inr ⟨_, _, _, fun ρ w s' x ty hs hr ⟨hlen, qs, hq1, hq2, hq3⟩ => ?_, rfl⟩
      cases hs
      have : qs = [] := List.eq_nil_of_length_eq_zero (by simpa using hq2)
      subst this
      exact ⟨_, ρ, w, run_append_room' hu hte hu2 hn2 hlen (hq3 w rfl) (Nat.le_refl _) w (fun a h => by cases h) (fun _ => rfl), .at _ _ .nilSlice, Stp.refl hr⟩
    | false =>
      rw [cond_false]
      refine out_if fun hfit => ?_
      rcases newK_ok (bad := bad) (h := h) (nx := nx) m (.cells e q) (fun h nx' => k (.at (.slu nx 0 n te.size)) h nx') with e1 | ⟨h', nx', ⟨rfl, hget⟩, e1⟩
      · exact .inl e1
      · rw [e1]
        refine .inr ⟨_, _, _, fun ρ w s' x ty hs hr hsrc => ?_, rfl⟩
        cases hs
        have hn := Nat.ne_of_beq_eq_false hn
        have := grown_ok (fl := fl) (fd := fd) (l := 0) (c := 0) (olds := []) (r := q) (ty := ty) hu hte hu2 hn2 hr hsrc (by simp) (run_firstCells_none _ _ _ _ _) (by omega) (by rw [Nat.zero_add]; exact hfit) (fun qs h1 h2 => by simpa using h1) hget
        rwa [Nat.zero_add] at this
  · -- room that is known
    rename_i b o l c
    cases hn : Nat.beq n 0 with
    | true =>
      have hn := Nat.eq_of_beq_eq_true hn
      subst hn
      refine .inr ⟨_, _, _, fun ρ w s' x ty hs hr ⟨hlen, qs, hq1, hq2, hq3⟩ => ?_, rfl⟩
      have : qs = [] := List.eq_nil_of_length_eq_zero (by simpa using hq2)
      subst this
      cases hs with
      | slice _ _ _ _ o' p hp hl hc ho =>
        exact ⟨_, ρ, w, run_append_room' hu hte hu2 hn2 hlen (hq3 w rfl) hl w (fun a h => rfl) (fun h => by cases h), .at _ _ (.slice _ _ _ _ _ p hp hl hc ho), Stp.refl hr⟩
    | false =>
      have hn := Nat.ne_of_beq_eq_false hn
      rw [cond_false, natK_eq]
      cases hroom : Nat.ble (Nat.add l n) c with
      | true =>
        have hroom : l + n ≤ c := Nat.le_of_ble_eq_true hroom
        rw [cond_true]
        rcases cellsK_ok (bad := bad) h b (fun bt r => okK bad (Nat.ble fl b) (r.upd bad m (Nat.add o (Nat.mul l te.size)) (Nat.mul n te.size) q fun r => setK bad h b (.cells bt r) fun h => k (.at (.slice b o (Nat.add l n) c)) h nx)) with e1 | ⟨bt, r, hb, e1⟩
        · exact .inl e1
        · rw [e1]
          refine out_if fun hfl => ?_
          have hfl := Nat.le_of_ble_eq_true hfl
          refine (upd_ok bad m r _ _ q _).out fun r' hr' => (setK_ok b _ _).out fun h' hget => .inr ⟨_, _, _, fun ρ w s' x ty hs hr ⟨hlen, qs, hq1, hq2, hq3⟩ => ?_, rfl⟩
          cases hs with
          | slice _ _ _ _ o' p hp hl hc ho =>
            have ho : o' = p.sh + o := ho.resolve_right (by omega)
            subst ho
            obtain ⟨w', s1, s2⟩ := mem_over (P := P) (fl := fl) (fd := fd) hr hb hp hfl hq1.one (fun cs hcs => by
              have := hr' ρ cs qs hcs hq1 hq2
              exact ⟨by rw [hq2]; exact this.1, this.2⟩) hget
            refine ⟨_, ρ, w', run_append_room' hu hte hu2 hn2 hlen (hq3 w rfl) hroom w' (fun a h => ?_) (fun h => by cases h), .at _ _ (.slice _ _ _ _ _ p hp hroom hc (.inl rfl)), s2⟩
            cases h
            rw [Addr.add_lit]
            rw [show p.sh + o + l * te.size = p.sh + Nat.add o (Nat.mul l te.size) from Nat.add_assoc ..]
            exact s1
      | false =>
        have hroom : ¬ l + n ≤ c := ble_f hroom
        rw [cond_false]
        refine out_if fun hfit => ?_
        cases hl0 : Nat.beq l 0 with
        | true =>
          have hl0 := Nat.eq_of_beq_eq_true hl0
          subst hl0
          rw [cond_true]
          rcases newK_ok (bad := bad) (h := h) (nx := nx) m (.cells e q) (fun h nx' => k (.at (.slu nx 0 (Nat.add 0 n) te.size)) h nx') with e1 | ⟨h', nx', ⟨rfl, hget⟩, e1⟩
          · exact .inl e1
          · rw [e1]
            refine .inr ⟨_, _, _, fun ρ w s' x ty hs hr hsrc => ?_, rfl⟩
            cases hs with
            | slice _ _ _ _ o' p hp hl hc ho =>
              exact grown_ok (olds := []) (r := q) hu hte hu2 hn2 hr hsrc (by simp) (run_firstCells_some _ _ _ _ _ _ [] (by simp) (fun j v hj => by simp at hj)) (by omega) hfit (fun qs h1 h2 => by simpa using h1) hget
        | false =>
          rw [cond_false]
          rcases cellsK_ok (bad := bad) h b (fun _ r => r.sub bad m o (Nat.mul l te.size) fun x => natK m (Nat.mul l te.size) fun p => jn m p x q fun r => newK bad m h nx (.cells e r) fun h nx' => k (.at (.slu nx 0 (Nat.add l n) te.size)) h nx') with e1 | ⟨bt, r, hb, e1⟩
          · exact .inl e1
          · rw [e1]
            refine (sub_ok bad m r _ _ _).out fun x1 hx1 => ?_
            rw [natK_eq]
            obtain ⟨r', hj, hjr⟩ := jn_ok m (Nat.mul l te.size) x1 q (fun r => newK bad m h nx (.cells e r) fun h nx' => k (.at (.slu nx 0 (Nat.add l n) te.size)) h nx')
            rw [hj]
            rcases newK_ok (bad := bad) (h := h) (nx := nx) m (.cells e r') (fun h nx' => k (.at (.slu nx 0 (Nat.add l n) te.size)) h nx') with e2 | ⟨h', nx', ⟨rfl, hget⟩, e2⟩
            · exact .inl e2
            · rw [e2]
              refine .inr ⟨_, _, _, fun ρ w s' x ty hs hr hsrc => ?_, rfl⟩
              cases hs with
              | slice _ _ _ _ o' p hp hl hc ho =>
                have hl0 := Nat.ne_of_beq_eq_false hl0
                have ho : o' = p.sh + o := ho.resolve_right (by omega)
                subst ho
                obtain ⟨arr, fr, cs, c1, c2, c3, c4, c5⟩ := hr.cells hb hp
                obtain ⟨d1, d2⟩ := hx1 ρ cs c3
                have d1 : o + l * te.size ≤ cs.length := d1
                have hlo : ((cs.drop o).take (l * te.size)).length = l * te.size := by rw [List.length_take, List.length_drop]; omega
                refine grown_ok (olds := (cs.drop o).take (l * te.size)) (r := r') hu hte hu2 hn2 hr hsrc hlo (run_firstCells_some _ _ _ _ _ _ _ hlo (fun j v hj => ?_)) (by omega) hfit (fun qs h1 h2 => hjr ρ _ _ d2 h1 hlo) hget
                rw [List.getElem?_take] at hj
                split at hj
                · rw [List.getElem?_drop] at hj
                  exact cell_at (w := w.drew) c1 (by rw [Nat.add_assoc]; exact c4 _ _ hj)
                · cases hj
  · -- room that is not known
    rename_i b o l z'
    cases hn : Nat.beq n 0 with
    | true =>
      have hn := Nat.eq_of_beq_eq_true hn
      subst hn
      refine .inr ⟨_, _, _, fun ρ w s' x ty hs hr ⟨hlen, qs, hq1, hq2, hq3⟩ => ?_, rfl⟩
      have : qs = [] := List.eq_nil_of_length_eq_zero (by simpa using hq2)
      subst this
      cases hs with
      | slu _ _ _ _ c o' p hp hl hc ho hs =>
        exact ⟨_, ρ, w, run_append_room' hu hte hu2 hn2 hlen (hq3 w rfl) hl w (fun a h => rfl) (fun h => by cases h), .at _ _ (.slu _ _ _ _ c _ p hp hl hc ho hs), Stp.refl hr⟩
    | false =>
      have hn := Nat.ne_of_beq_eq_false hn
      rw [cond_false]
      refine out_if fun hc => ?_
      obtain ⟨hz, hfd⟩ := two_t hc
      have hz := Nat.eq_of_beq_eq_true hz
      have hfd := Nat.le_of_ble_eq_true hfd
      subst hz
      rw [natK_eq]
      refine out_if fun hfit => ?_
      rcases cellsK_ok (bad := bad) h b (fun bt r => okK bad (Nat.beq bt e) (r.sub bad m o (Nat.mul l te.size) fun x => natK m (Nat.mul l te.size) fun p => jn m p x q fun r => delK bad h b fun h => newK bad m h nx (.cells e r) fun h nx' => k (.at (.slu nx 0 (Nat.add l n) te.size)) h nx')) with e1 | ⟨bt, r, hb, e1⟩
      · exact .inl e1
      · rw [e1]
        refine out_if fun hbt => ?_
        have hbt := Nat.eq_of_beq_eq_true hbt
        subst hbt
        refine (sub_ok bad m r _ _ _).out fun x1 hx1 => ?_
        rw [natK_eq]
        obtain ⟨r', hj, hjr⟩ := jn_ok m (Nat.mul l te.size) x1 q (fun r => delK bad h b fun h => newK bad m h nx (.cells bt r) fun h nx' => k (.at (.slu nx 0 (Nat.add l n) te.size)) h nx')
        rw [hj]
        refine (delK_ok b _).out fun h1 hg1 => ?_
        rcases newK_ok (bad := bad) (h := h1) (nx := nx) m (.cells bt r') (fun h nx' => k (.at (.slu nx 0 (Nat.add l n) te.size)) h nx') with e2 | ⟨h', nx', ⟨rfl, hget⟩, e2⟩
        · exact .inl e2
        · rw [e2]
          refine .inr ⟨_, _, _, fun ρ w s' x ty hs hr hsrc => ?_, rfl⟩
          cases hs with
          | slu _ _ _ _ c o' p hp hl hc ho hs =>
            obtain ⟨arr, fr, cs, c1, c2, c3, c4, c5⟩ := hr.cells hb hp
            obtain ⟨d1, d2⟩ := hx1 ρ cs c3
            have d1 : o + l * te.size ≤ cs.length := d1
            have hlo : ((cs.drop o).take (l * te.size)).length = l * te.size := by rw [List.length_take, List.length_drop]; omega
            have hol : ∀ (j : Nat) (v : Value), ((cs.drop o).take (l * te.size))[j]? = some v → arr[o' + j]? = some v := fun j v hj => by
              rcases ho with ho | ho
              · rw [List.getElem?_take] at hj
                split at hj
                · rw [List.getElem?_drop] at hj
                  subst ho
                  rw [Nat.add_assoc]; exact c4 _ _ hj
                · cases hj
              · have hl0 : l = 0 := by omega
                rw [hl0] at hj
                simp at hj
            rcases Nat.lt_or_ge c (l + n) with hg | hg
            · -- a new block
              have s1 : Stp fl fd ρ h.get nx w ρ h1.get nx w := stp_del hr hfd hg1
              obtain ⟨y, ρ', w', r1, r2, r3⟩ := grown_ok (fl := fl) (fd := fd) (ty := ty) (base := some ⟨p.blk, o', none⟩) (c := c) (olds := (cs.drop o).take (l * te.size)) (r := r') hu hte hu2 hn2 s1.rel hsrc hlo (run_firstCells_some _ _ _ _ _ _ _ hlo (fun j v hj => cell_at (w := w.drew) c1 (hol j v hj))) hg hfit (fun qs h1 h2 => hjr ρ _ _ d2 h1 hlo) hget
              exact ⟨y, ρ', w', r1, r2, s1.trans r3 hf⟩
            · -- in place
              obtain ⟨hlen, qs, hq1, hq2, hq3⟩ := hsrc
              have hsz : arr.size = p.size := c2
              have hmul : (l + n) * te.size ≤ c * te.size := Nat.mul_le_mul_right _ hg
              have hfits : o' + l * te.size + 0 + qs.length ≤ arr.size := by rw [hq2, hsz]; rw [Nat.add_mul] at hmul; omega
              obtain ⟨w', arr', e3, e4, e5, e6, e7⟩ := run_storeCells_any (P := P) qs (o' + l * te.size) 0 arr w c1 c5.no hfits hq1.one
              refine ⟨_, _, w', run_append_room' hu hte hu2 hn2 hlen (hq3 w rfl) hg w' (fun a h => ?_) (fun h => by cases h), .at _ _ (.slu nx 0 (l + n) te.size c o' ⟨p.blk, o', p.size⟩ ?_ hg hc (.inl rfl) hs),
                stp_move (fl := fl) hr (o' := o') (arr := arr') (cs := (cs.drop o).take (l * te.size) ++ qs) hb hp hfd (hjr ρ _ _ d2 hq1 hlo) (fun i v hv => ?_) (by rw [e6]; exact c5) (e6.trans hsz) e5 e4 (fun j => by rw [hget, hg1])⟩
              · cases h
                rw [Addr.add_lit]
                exact e3
              · show (if nx = nx then _ else _) = _
                rw [if_pos rfl]
              · rw [e7]
                rcases Nat.lt_or_ge i (l * te.size) with hi | hi
                · rw [if_neg (by omega)]
                  rw [List.getElem?_append_left (by omega)] at hv
                  exact hol i v hv
                · rw [List.getElem?_append_right (by omega), hlo] at hv
                  have := (List.getElem?_eq_some_iff.1 hv).1
                  rw [if_pos (by omega), show o' + i - (o' + l * te.size + 0) = i - l * te.size by omega]
                  exact hv
  · exact .inl rfl
end
end Go.E
