/-
  E, seventeenth text, fifth part: any order leads to the same state.
-/
import Derived.Test.YtbecokebaikhaaaGreatEqd
namespace Go.E
open Go Go.RowKit Go.V
set_option linter.unusedVariables false
set_option linter.unusedSimpArgs false
def cut (ρ : Plc) (m : Nat) : Plc := fun b => if b < m then ρ b else none
theorem cut_some {ρ : Plc} {m b : Nat} {p : Pl} : cut ρ m b = some p ↔ b < m ∧ ρ b = some p := by
  unfold cut
  split
  · rename_i h; exact ⟨fun e => ⟨h, e⟩, fun e => e.2⟩
  · rename_i h; exact ⟨fun e => (by cases e), fun e => absurd e.1 h⟩
theorem cut_le {ρ ρ' : Plc} {m m' : Nat} (hρ : ρ.le ρ') (hm : m ≤ m') : (cut ρ m).le (cut ρ' m') := fun b p h => by
  rw [cut_some] at h ⊢
  exact ⟨by omega, hρ _ _ h.2⟩
theorem Res.mono {P : Program} {Φ Ψ : Value → World → Prop} {r : Result Next} (hr : Res P Φ r) (h : ∀ x w, Φ x w → Ψ x w) : Res P Ψ r := by
  unfold Res at hr ⊢
  split at hr
  · exact h _ _ hr
  · exact h _ _ hr
  · exact hr.mono fun e w' ⟨v, e1, e2⟩ => ⟨v, e1, h _ _ e2⟩
  · exact hr.elim
section
variable {P : Program} {n fl fd : Nat} {os : List Oper} {s0 : St} {T : Nat → D} {st : Nat → St} {S : Nat → Bool} {ρ0 ρ : Plc} {w0 w : World} {a : Act} {i : Nat}
def valD (d : D) : V := if d.tk = true then d.v else .undef
def wrS (os : List Oper) (T : Nat → D) (st : Nat → St) (j t : Nat) : Option (Option (V × Nat)) :=
  if (os[j]?).bind (·.dst) = some t then some (some (valD (T j), (st (j + 1)).nx)) else none
open Classical in
noncomputable def wrB (T : Nat → D) (st : Nat → St) (j b : Nat) : Option (Option (Bk × Nat)) :=
  if (T j).tk = true ∧ (T j).W b then some (((st (j + 1)).h.get b).map (·, (st (j + 1)).nx)) else none
def cS (s0 : St) (t : Nat) : Option (V × Nat) := (s0.env.get t).map (·, s0.nx)
def cB (s0 : St) (b : Nat) : Option (Bk × Nat) := (s0.h.get b).map (·, s0.nx)
noncomputable abbrev repS (os : List Oper) (s0 : St) (T : Nat → D) (st : Nat → St) (S : Nat → Bool) (i t : Nat) : Option (V × Nat) := rep (cS s0) (wrS os T st) S i t
noncomputable abbrev repB (s0 : St) (T : Nat → D) (st : Nat → St) (S : Nat → Bool) (i b : Nat) : Option (Bk × Nat) := rep (cB s0) (wrB T st) S i b
abbrev allS : Nat → Bool := fun _ => true
theorem wrB_some {j b : Nat} {x : Option (Bk × Nat)} (h : wrB T st j b = some x) : ((T j).tk = true ∧ (T j).W b) ∧ x = ((st (j + 1)).h.get b).map (·, (st (j + 1)).nx) := by
  unfold wrB at h
  split at h
  · rename_i hc; cases h; exact ⟨hc, rfl⟩
  · cases h
theorem canS (hT : TOk P n fl fd os s0 T st os.length) (t : Nat) : ∀ j, j ≤ os.length → (repS os s0 T st allS j t).map Prod.fst = (st j).env.get t ∧ ∀ v m, repS os s0 T st allS j t = some (v, m) → m ≤ (st j).nx
  | 0, _ => by
    rw [hT.st0]
    show ((s0.env.get t).map (·, s0.nx)).map Prod.fst = _ ∧ ∀ v m, (s0.env.get t).map (·, s0.nx) = some (v, m) → _
    cases s0.env.get t with
    | none => exact ⟨rfl, fun v m h => by cases h⟩
    | some x => exact ⟨rfl, fun v m h => by cases h; exact Nat.le_refl _⟩
  | j + 1, hj => by
    have hd := hT.ok j (by omega) os[j] (List.getElem?_eq_getElem (by omega))
    obtain ⟨h1, h2⟩ := canS hT t j (by omega)
    have he := hd.env t
    have hoj : os[j]? = some os[j] := List.getElem?_eq_getElem (by omega)
    by_cases hc : os[j].dst = some t
    · have hw : wrS os T st j t = some (some (valD (T j), (st (j + 1)).nx)) := by
        unfold wrS; rw [hoj]; exact if_pos hc
      have e : repS os s0 T st allS (j + 1) t = some (valD (T j), (st (j + 1)).nx) := rep_take rfl hw
      rw [e, he, if_pos hc]
      exact ⟨rfl, fun v m h => by cases h; exact Nat.le_refl _⟩
    · have hw : wrS os T st j t = none := by
        unfold wrS; rw [hoj]; exact if_neg hc
      have e : repS os s0 T st allS (j + 1) t = repS os s0 T st allS j t := rep_none hw
      rw [e, he, if_neg hc]
      exact ⟨h1, fun v m h => Nat.le_trans (h2 v m h) hd.nxle⟩
theorem canB (hT : TOk P n fl fd os s0 T st os.length) (b : Nat) : ∀ j, j ≤ os.length → (repB s0 T st allS j b).map Prod.fst = (st j).h.get b ∧ ∀ v m, repB s0 T st allS j b = some (v, m) → m ≤ (st j).nx
  | 0, _ => by
    rw [hT.st0]
    show ((s0.h.get b).map (·, s0.nx)).map Prod.fst = _ ∧ ∀ v m, (s0.h.get b).map (·, s0.nx) = some (v, m) → _
    cases s0.h.get b with
    | none => exact ⟨rfl, fun v m h => by cases h⟩
    | some x => exact ⟨rfl, fun v m h => by cases h; exact Nat.le_refl _⟩
  | j + 1, hj => by
    have hd := hT.ok j (by omega) os[j] (List.getElem?_eq_getElem (by omega))
    obtain ⟨h1, h2⟩ := canB hT b j (by omega)
    cases hw : wrB T st j b with
    | some x =>
      obtain ⟨_, hx⟩ := wrB_some hw
      have e : repB s0 T st allS (j + 1) b = x := rep_take rfl hw
      rw [e, hx]
      cases (st (j + 1)).h.get b with
      | none => exact ⟨rfl, fun v m h => by cases h⟩
      | some y => exact ⟨rfl, fun v m h => by cases h; exact Nat.le_refl _⟩
    | none =>
      have hno : ¬ ((T j).tk = true ∧ (T j).W b) := fun hc => by
        unfold wrB at hw; rw [if_pos hc] at hw; cases hw
      have e : repB s0 T st allS (j + 1) b = repB s0 T st allS j b := rep_none hw
      rw [e]
      have he : (st (j + 1)).h.get b = (st j).h.get b := by
        cases htk : (T j).tk with
        | true => exact (hd.aft htk b).2 fun hW => hno ⟨htk, hW⟩
        | false => rw [(hd.no htk).1]
      rw [he]
      exact ⟨h1, fun v m h => Nat.le_trans (h2 v m h) hd.nxle⟩
theorem fst_some {α β : Type} {o : Option (α × β)} {x : α} (h : o.map Prod.fst = some x) : ∃ m, o = some (x, m) := by
  cases o with
  | none => cases h
  | some y => cases h; exact ⟨_, rfl⟩
/-- When these operations have been run. -/
structure Inv (n fl fd : Nat) (os : List Oper) (s0 : St) (T : Nat → D) (st : Nat → St) (ρ0 : Plc) (w0 : World) (S : Nat → Bool) (ρ : Plc) (a : Act) (w : World) : Prop where
  stp : Stp fl fd ρ0 s0.h.get s0.nx w0 ρ (fun b => (repB s0 T st S os.length b).map Prod.fst) (st os.length).nx w
  own : ∀ b p, ρ b = some p → b < s0.nx ∨ ∃ j, j < os.length ∧ S j = true ∧ (T j).tk = true ∧ (st j).nx ≤ b ∧ b < (st (j + 1)).nx
  defers : a.defers = []
  size : a.tmps.size = n
  slot : ∀ t v m, repS os s0 T st S os.length t = some (v, m) → VR (cut ρ m) v (a.tmps.getD t undef)
  blk : ∀ b B m, repB s0 T st S os.length b = some (B, m) → ∃ p, ρ b = some p ∧ BkR (cut ρ m) p B w.heap[p.blk]?
/-- The i-th may be run now. -/
def Next1 (os : List Oper) (S : Nat → Bool) (i : Nat) : Prop := ∀ j, j < os.length → j ≠ i → ¬ Loose os i j → (j < i → S j = true) ∧ (i < j → S j = false)
theorem inv_env (hT : TOk P n fl fd os s0 T st os.length) (hS : Slots os) (inv : Inv n fl fd os s0 T st ρ0 w0 S ρ a w) {o : Oper} (ho : os[i]? = some o) (hi : S i = false) (hn : Next1 os S i) : EnvOk (cut ρ (st i).nx) n ((st i).env.only (seen1 os o)) a := by
  have hlt := at_lt ho
  refine ⟨inv.defers, inv.size, fun t v hv => ?_⟩
  rw [Tr.get_only] at hv
  split at hv
  · rename_i hs
    obtain ⟨h1, h2⟩ := canS hT t i (by omega)
    rw [hv] at h1
    obtain ⟨m, hm⟩ := fst_some h1
    have hrd : repS os s0 T st S os.length t = repS os s0 T st allS i t := rep_read (by omega) fun j hj hw => by
      by_cases e : j = i
      · subst e; exact ⟨fun h => by omega, fun _ => hi⟩
      · have hd : (os[j]?).bind (·.dst) = some t := by
          unfold wrS at hw
          split at hw
          · assumption
          · exact absurd rfl hw
        have hoj : os[j]? = some os[j] := List.getElem?_eq_getElem hj
        rw [hoj] at hd
        have := hS.ord i o j os[j] t ho hoj (fun h => e h.symm) hd (.inl (seen1_iff.1 hs))
        have := hn j hj e (by unfold Loose; rw [this]; simp)
        exact ⟨this.1, fun h => this.2 (by omega)⟩
    exact (inv.slot t v m (hrd.trans hm)).mono (cut_le (fun _ _ h => h) (h2 v m hm))
  · cases hv
theorem inv_seen (hT : TOk P n fl fd os s0 T st os.length) (inv : Inv n fl fd os s0 T st ρ0 w0 S ρ a w) (hi : i < os.length) (hSi : S i = false) (hn : Next1 os S i) (htk : (T i).tk = true) {b : Nat} (hA : (T i).A b) : repB s0 T st S os.length b = repB s0 T st allS i b :=
  rep_read (by omega) fun j hj hw => by
    by_cases e : j = i
    · subst e; exact ⟨fun h => by omega, fun _ => hSi⟩
    · cases hx : wrB T st j b with
      | none => exact absurd hx hw
      | some x =>
        obtain ⟨⟨h1, h2⟩, _⟩ := wrB_some hx
        by_cases hl : Loose os j i
        · exact absurd hA (hT.conf j i hj hi e h1 htk hl b h2)
        · have := hn j hj e fun h => hl h.symm
          exact ⟨this.1, fun h => this.2 (by omega)⟩
theorem inv_slot (hT : TOk P n fl fd os s0 T st os.length) (hS : Slots os) (inv : Inv n fl fd os s0 T st ρ0 w0 S ρ a w) {o : Oper} (ho : os[i]? = some o) (hd : dstB n o = true) (hi : S i = false) (hn : Next1 os S i) {ρ2 : Plc} (hle : ρ.le ρ2) {x : Value} (hx : VR (cut ρ2 (st (i + 1)).nx) (valD (T i)) x) :
    ∀ t v m, repS os s0 T st (plus S i) os.length t = some (v, m) → VR (cut ρ2 m) v ((a.put o.dst x).tmps.getD t undef) := by
  have hlt := at_lt ho
  intro t v m hv
  have hw : repS os s0 T st (plus S i) os.length t = (wrS os T st i t).getD (repS os s0 T st S os.length t) := rep_put hlt hi fun j hij hj h1 h2 => by
    have hoj : os[j]? = some os[j] := List.getElem?_eq_getElem hj
    have d1 : (os[j]?).bind (·.dst) = some t := by
      unfold wrS at h1
      split at h1
      · assumption
      · exact absurd rfl h1
    have d2 : (os[i]?).bind (·.dst) = some t := by
      unfold wrS at h2
      split at h2
      · assumption
      · exact absurd rfl h2
    rw [hoj] at d1
    rw [ho] at d2
    have := hS.ord i o j os[j] t ho hoj (by omega) d1 (.inr d2)
    exact (hn j hj (by omega) (by unfold Loose; rw [this]; simp)).2 hij
  rw [hw] at hv
  unfold wrS at hv
  rw [ho] at hv
  simp only [Option.bind_some] at hv
  split at hv
  · rename_i hc
    rw [Option.getD_some] at hv
    cases hv
    unfold dstB at hd
    rw [hc] at hd ⊢
    have hlt' : t < a.tmps.size := by rw [inv.size]; exact blt_t hd
    have : (a.put (some t) x).tmps.getD t undef = x := by simp [Act.put, hlt']
    rw [this]
    exact hx
  · rename_i hc
    rw [Option.getD_none] at hv
    have h1 := inv.slot t v m hv
    have h2 : (a.put o.dst x).tmps.getD t undef = a.tmps.getD t undef := by
      cases hdst : o.dst with
      | none => rfl
      | some d =>
        simp only [Act.put, Array.getD_eq_getD_getElem?]
        rw [Array.getElem?_setIfInBounds_ne (by intro e; subst e; exact hc hdst)]
    rw [h2]
    exact h1.mono (cut_le hle (Nat.le_refl _))
theorem inv_no (hT : TOk P n fl fd os s0 T st os.length) (hS : Slots os) (inv : Inv n fl fd os s0 T st ρ0 w0 S ρ a w) {o : Oper} (ho : os[i]? = some o) (hd : dstB n o = true) (hi : S i = false) (hn : Next1 os S i) (htk : (T i).tk = false) : Inv n fl fd os s0 T st ρ0 w0 (plus S i) ρ (a.put o.dst undef) w := by
  have hlt := at_lt ho
  have hB : ∀ b, repB s0 T st (plus S i) os.length b = repB s0 T st S os.length b := fun b => by
    have hw : wrB T st i b = none := by unfold wrB; exact if_neg (by rw [htk]; simp)
    have e : repB s0 T st (plus S i) os.length b = (wrB T st i b).getD (repB s0 T st S os.length b) := rep_put hlt hi fun j _ _ _ h => absurd hw h
    rw [e, hw]; rfl
  refine ⟨by simp only [hB]; exact inv.stp, fun b p hb => ?_, ?_, ?_, inv_slot hT hS inv ho hd hi hn (fun _ _ h => h) (by unfold valD; rw [if_neg (by rw [htk]; simp)]; exact .undef), fun b B m hb => inv.blk b B m (by rw [← hB]; exact hb)⟩
  · rcases inv.own b p hb with h | ⟨j, h1, h2, h3⟩
    · exact .inl h
    · exact .inr ⟨j, h1, by simp [plus, h2], h3⟩
  · have := inv.defers
    cases o.dst <;> exact this
  · have := inv.size
    cases o.dst <;> simpa [Act.put] using this
theorem inv_yes (hT : TOk P n fl fd os s0 T st os.length) (hS : Slots os) (inv : Inv n fl fd os s0 T st ρ0 w0 S ρ a w) (hR0 : ∀ b p, ρ0 b = some p → b < s0.nx) {o : Oper} (ho : os[i]? = some o) (hd : dstB n o = true) (hi : S i = false) (hn : Next1 os S i) (htk : (T i).tk = true)
    (hsup : ∀ b B, (st i).h.get b = some B → b < (st i).nx) : Res P (fun x w' => ∃ ρ', Inv n fl fd os s0 T st ρ0 w0 (plus S i) ρ' (a.put o.dst x) w') ((execOp a.eval o).run P w) := by
  have hlt := at_lt ho
  have hD := hT.ok i hlt o ho
  have hmono := hT.mono (Nat.le_refl _)
  have hnx0 : s0.nx ≤ (st i).nx := by have := hmono i 0 (by omega) (by omega); rwa [hT.st0] at this
  have hnxN : (st (i + 1)).nx ≤ (st os.length).nx := hmono _ _ (by omega) (Nat.le_refl _)
  -- what it sees is there
  have hcan : ∀ b, b < (st i).nx → (T i).A b → (repB s0 T st S os.length b).map Prod.fst = (st i).h.get b := fun b hb hA => by
    rw [inv_seen hT inv hlt hi hn htk hA]; exact (canB hT b i (by omega)).1
  have hB : ∀ b B, (T i).h1.get b = some B → b < (st i).nx ∧ ∃ m, m ≤ (st i).nx ∧ repB s0 T st S os.length b = some (B, m) := fun b B hb => by
    obtain ⟨h1, h2⟩ := hD.sub htk b B hb
    have hlt2 := hsup b B h1
    refine ⟨hlt2, ?_⟩
    have h3 := hcan b hlt2 (h2 hlt2)
    rw [h1] at h3
    obtain ⟨m, hm⟩ := fst_some h3
    refine ⟨m, ?_, hm⟩
    rw [inv_seen hT inv hlt hi hn htk (h2 hlt2)] at hm
    exact (canB hT b i (by omega)).2 B m hm
  have live : ∀ b, (T i).h1.get b ≠ none → (repB s0 T st S os.length b).map Prod.fst ≠ none := fun b hb => by
    cases hc : (T i).h1.get b with
    | none => exact absurd hc hb
    | some B => obtain ⟨_, m, _, hm⟩ := hB b B hc; rw [hm]; simp
  have hRel : Rel (cut ρ (st i).nx) (T i).h1.get (st i).nx w := by
    refine ⟨fun b p hb => ?_, fun b B hb => ?_, fun b b' p p' h1 h2 h3 h4 he => ?_⟩
    · rw [cut_some] at hb; exact ⟨hb.1, (inv.stp.rel.dom b p hb.2).2⟩
    · obtain ⟨hlt2, m, hm, hrep⟩ := hB b B hb
      obtain ⟨p, hp, hbk⟩ := inv.blk b B m hrep
      exact ⟨p, cut_some.2 ⟨hlt2, hp⟩, hbk.mono (cut_le (fun _ _ h => h) hm)⟩
    · rw [cut_some] at h3 h4
      exact inv.stp.rel.inj b b' p p' (live b h1) (live b' h2) h3.2 h4.2 he
  refine (hD.sem htk _ a w (inv_env hT hS inv ho hi hn) hRel).mono fun x w' ⟨ρ', hv, hs⟩ => ?_
  obtain ⟨ρ2, hρ2⟩ : ∃ ρ2 : Plc, ∀ b, ρ2 b = match ρ' b with | some p => some p | none => ρ b := ⟨_, fun b => rfl⟩
  have F1 : ∀ b p, ρ' b = some p → ρ2 b = some p := fun b p h => by rw [hρ2, h]
  have F2 : ρ.le ρ2 := fun b p h => by
    rw [hρ2]
    cases hq : ρ' b with
    | none => exact h
    | some q =>
      rcases hs.dom b q hq with h1 | h1
      · rw [cut_some] at h1; rw [← h1.2, h]
      · exfalso
        have h2 := (hs.rel.dom b q hq).1
        rcases inv.own b p h with h3 | ⟨j, hj, h3, _, h4, h5⟩
        · omega
        · have hne : j ≠ i := fun e => by subst e; rw [hi] at h3; cases h3
          rcases Nat.lt_or_ge j i with hji | hji
          · have := hmono i (j + 1) (by omega) (by omega); omega
          · have := hmono j (i + 1) (by omega) (by omega); omega
  have F3 : ∀ b p, ρ2 b = some p → ρ b = some p ∨ (ρ' b = some p ∧ (st i).nx ≤ b ∧ b < (st (i + 1)).nx) := fun b p h => by
    rw [hρ2] at h
    split at h
    · rename_i q hq
      cases h
      rcases hs.dom b _ hq with h1 | h1
      · rw [cut_some] at h1; exact .inl h1.2
      · exact .inr ⟨hq, h1, (hs.rel.dom b _ hq).1⟩
    · exact .inl h
  have F5 : ρ'.le (cut ρ2 (st (i + 1)).nx) := fun b p h => cut_some.2 ⟨(hs.rel.dom b p h).1, F1 b p h⟩
  have G1 : ∀ b, (T i).W b → repB s0 T st (plus S i) os.length b = ((T i).h2.get b).map (·, (st (i + 1)).nx) := fun b hW => by
    have hw : wrB T st i b = some (((st (i + 1)).h.get b).map (·, (st (i + 1)).nx)) := by unfold wrB; exact if_pos ⟨htk, hW⟩
    have e : repB s0 T st (plus S i) os.length b = (wrB T st i b).getD (repB s0 T st S os.length b) := rep_put hlt hi fun j hij hj h1 _ => by
      cases hx : wrB T st j b with
      | none => exact absurd hx h1
      | some x =>
        obtain ⟨⟨h3, h4⟩, _⟩ := wrB_some hx
        by_cases hl : Loose os j i
        · exact absurd (hD.WA b hW) (hT.conf j i hj hlt (by omega) h3 htk hl b h4)
        · exact (hn j hj (by omega) fun h => hl h.symm).2 hij
    rw [e, hw, Option.getD_some, (hD.aft htk b).1 hW]
  have G2 : ∀ b, ¬ (T i).W b → repB s0 T st (plus S i) os.length b = repB s0 T st S os.length b := fun b hW => by
    have hw : wrB T st i b = none := by unfold wrB; exact if_neg (fun h => hW h.2)
    have e : repB s0 T st (plus S i) os.length b = (wrB T st i b).getD (repB s0 T st S os.length b) := rep_put hlt hi fun j _ _ _ h => absurd hw h
    rw [e, hw]; rfl
  have same : ∀ b B m p, ¬ (T i).W b → repB s0 T st S os.length b = some (B, m) → ρ b = some p → w'.heap[p.blk]? = w.heap[p.blk]? := fun b B m p hW hrep hp => by
    refine hs.fr p.blk (inv.stp.rel.dom b p hp).2 fun b' p' hc h1 h2 he => ?_
    rw [cut_some] at h2
    have e := inv.stp.rel.inj b' b p' p (live b' h1) (by rw [hrep]; simp) h2.2 hp he
    subst e
    obtain ⟨k1, k2⟩ := hD.keep htk b' h2.1 h1 hW
    rcases hc with hc | ⟨hc1, hc2⟩
    · omega
    · exact k2 hc1 hc2
  have hblk : ∀ b B m, repB s0 T st (plus S i) os.length b = some (B, m) → ∃ p, ρ2 b = some p ∧ BkR (cut ρ2 m) p B w'.heap[p.blk]? := fun b B m h => by
    by_cases hW : (T i).W b
    · rw [G1 b hW] at h
      cases hc : (T i).h2.get b with
      | none => rw [hc] at h; cases h
      | some B' =>
        rw [hc] at h
        cases h
        obtain ⟨p, hp, hbk⟩ := hs.rel.blk b B hc
        exact ⟨p, F1 b p hp, hbk.mono F5⟩
    · rw [G2 b hW] at h
      obtain ⟨p, hp, hbk⟩ := inv.blk b B m h
      refine ⟨p, F2 b p hp, ?_⟩
      rw [same b B m p hW h hp]
      exact hbk.mono (cut_le F2 (Nat.le_refl _))
  -- what is dead stays dead
  have dead : ∀ b, b < (st i).nx → (repB s0 T st S os.length b).map Prod.fst = none → (repB s0 T st (plus S i) os.length b).map Prod.fst = none := fun b hb hg => by
    by_cases hW : (T i).W b
    · have h1 : (T i).h1.get b = none := by rw [hD.pick htk b hb hW, ← hcan b hb (hD.WA b hW)]; exact hg
      rw [G1 b hW]
      rcases hs.old b hb with h2 | ⟨_, h2⟩ | ⟨_, h2⟩
      · rw [h2, h1]; rfl
      · exact absurd h1 h2
      · rw [h2]; rfl
    · rw [G2 b hW]; exact hg
  have lv2 : ∀ b, (T i).W b → (repB s0 T st (plus S i) os.length b).map Prod.fst ≠ none → (T i).h2.get b ≠ none := fun b hW h hc => by
    rw [G1 b hW, hc] at h; exact h rfl
  have pl2 : ∀ b p, (T i).h2.get b ≠ none → ρ2 b = some p → ρ' b = some p := fun b p h hp => by
    cases hc : (T i).h2.get b with
    | none => exact absurd hc h
    | some B =>
      obtain ⟨q, hq, _⟩ := hs.rel.blk b B hc
      rw [F1 b q hq] at hp
      rw [hq, hp]
  have pl1 : ∀ b p, (repB s0 T st S os.length b).map Prod.fst ≠ none → ρ2 b = some p → ρ b = some p := fun b p h hp => by
    cases hc : repB s0 T st S os.length b with
    | none => rw [hc] at h; exact absurd rfl h
    | some x =>
      obtain ⟨q, hq, _⟩ := inv.blk b x.1 x.2 hc
      rw [F2 b q hq] at hp
      rw [hq, hp]
  have hdead0 : ∀ b p, ρ0 b = some p → (repB s0 T st S os.length b).map Prod.fst = none → (repB s0 T st (plus S i) os.length b).map Prod.fst = none := fun b p hp h => dead b (by have := hR0 b p hp; omega) h
  -- a live block of one kind and one of the other are apart
  have apart : ∀ b b' p p', (T i).W b → ¬ (T i).W b' → (T i).h2.get b ≠ none → (repB s0 T st S os.length b').map Prod.fst ≠ none → ρ' b = some p → ρ b' = some p' → p.blk = p'.blk → False := fun b b' p p' hW hW' h1 h2 h3 h4 he => by
    rcases hs.live b p h1 h3 with ⟨k1, k2⟩ | ⟨k1, k2 | ⟨b0, p0, k2, k3, k4, k5⟩⟩
    · rw [cut_some] at k2
      have := inv.stp.rel.inj b b' p p' (live b k1) h2 k2.2 h4 he
      subst this
      exact hW' hW
    · have := (inv.stp.rel.dom b' p' h4).2; omega
    · rw [cut_some] at k4
      have := inv.stp.rel.inj b0 b' p0 p' (live b0 k3) h2 k4.2 h4 (by omega)
      subst this
      -- it would be deleted: the new block lies at its place
      by_cases hc : (T i).h2.get b0 = none
      · exact (hD.keep htk b0 k4.1 k3 hW').2 k2 hc
      · have := hs.rel.inj b b0 p p0 h1 hc h3 (hs.le _ _ (cut_some.2 k4)) (by omega)
        subst this
        exact hW' hW
  refine ⟨ρ2, ?_, fun b p hb => ?_, ?_, ?_, inv_slot hT hS inv ho hd hi hn F2 (by unfold valD; rw [if_pos htk]; exact hv.mono F5), hblk⟩
  · exact {
      le := fun b p h => F2 _ _ (inv.stp.le _ _ h)
      nxle := inv.stp.nxle
      rel := by
        refine ⟨fun b p hb => ?_, fun b B hb => ?_, fun b b' p p' h1 h2 h3 h4 he => ?_⟩
        · rcases F3 b p hb with h | ⟨h1, h2, h3⟩
          · have := inv.stp.rel.dom b p h
            have := hs.size
            omega
          · have := (hs.rel.dom b p h1).2
            omega
        · obtain ⟨m, hm⟩ := fst_some hb
          obtain ⟨p, hp, hbk⟩ := hblk b B m hm
          exact ⟨p, hp, hbk.mono fun b p h => (cut_some.1 h).2⟩
        · by_cases c1 : (T i).W b <;> by_cases c2 : (T i).W b'
          · exact hs.rel.inj b b' p p' (lv2 b c1 h1) (lv2 b' c2 h2) (pl2 b p (lv2 b c1 h1) h3) (pl2 b' p' (lv2 b' c2 h2) h4) he
          · rw [G2 b' c2] at h2
            exact (apart b b' p p' c1 c2 (lv2 b c1 h1) h2 (pl2 b p (lv2 b c1 h1) h3) (pl1 b' p' h2 h4) he).elim
          · rw [G2 b c1] at h1
            exact (apart b' b p' p c2 c1 (lv2 b' c2 h2) h1 (pl2 b' p' (lv2 b' c2 h2) h4) (pl1 b p h1 h3) he.symm).elim
          · rw [G2 b c1] at h1
            rw [G2 b' c2] at h2
            exact inv.stp.rel.inj b b' p p' h1 h2 (pl1 b p h1 h3) (pl1 b' p' h2 h4) he
      dom := fun b p hb => by
        rcases F3 b p hb with h | ⟨h1, h2, h3⟩
        · exact inv.stp.dom b p h
        · right; omega
      old := fun b hb => by
        by_cases hW : (T i).W b
        · have hlt2 : b < (st i).nx := by omega
          have e1 : (T i).h1.get b = (repB s0 T st S os.length b).map Prod.fst := by rw [hD.pick htk b hlt2 hW, ← hcan b hlt2 (hD.WA b hW)]
          have e2 : (repB s0 T st (plus S i) os.length b).map Prod.fst = (T i).h2.get b := by
            rw [G1 b hW]
            cases (T i).h2.get b <;> rfl
          show (repB s0 T st (plus S i) os.length b).map Prod.fst = _ ∨ _ ∨ (_ ∧ (repB s0 T st (plus S i) os.length b).map Prod.fst = none)
          rw [e2]
          rcases hs.old b hlt2 with h2 | ⟨h2, h3⟩ | ⟨h2, h3⟩
          · rw [h2, e1]; exact inv.stp.old b hb
          · rcases hD.bfl with hf | hf
            · have hfb : fl ≤ b := by omega
              rw [e1] at h3
              rcases inv.stp.old b hb with h4 | h4 | ⟨h4, h5⟩
              · exact .inr (.inl ⟨hfb, fun h5 => h3 (h4.trans h5)⟩)
              · exact .inr (.inl h4)
              · exact absurd h5 h3
            · omega
          · rcases hD.bfd with hf | hf
            · exact .inr (.inr ⟨by omega, h3⟩)
            · omega
        · have e := G2 b hW
          show (repB s0 T st (plus S i) os.length b).map Prod.fst = _ ∨ _ ∨ (_ ∧ (repB s0 T st (plus S i) os.length b).map Prod.fst = none)
          rw [e]
          exact inv.stp.old b hb
      live := fun b p h1 h2 => by
        by_cases hW : (T i).W b
        · have l2 := lv2 b hW h1
          rcases hs.live b p l2 (pl2 b p l2 h2) with ⟨k1, k2⟩ | ⟨k1, k2 | ⟨b0, p0, k2, k3, k4, k5⟩⟩
          · rw [cut_some] at k2
            exact inv.stp.live b p (live b k1) k2.2
          · exact .inr ⟨by omega, .inl (by have := inv.stp.size; omega)⟩
          · rw [cut_some] at k4
            refine .inr ⟨by omega, ?_⟩
            rcases inv.stp.live b0 p0 (live b0 k3) k4.2 with ⟨q1, q2⟩ | ⟨q1, q2 | ⟨b1, p1, q2, q3, q4, q5⟩⟩
            · rcases hD.bfd with hf | hf
              · exact .inr ⟨b0, p0, by omega, q1, q2, k5⟩
              · have := hR0 b0 p0 q2; omega
            · exact .inl (by omega)
            · exact .inr ⟨b1, p1, q2, q3, q4, by omega⟩
        · have h1 : (repB s0 T st (plus S i) os.length b).map Prod.fst ≠ none := h1
          rw [G2 b hW] at h1
          exact inv.stp.live b p h1 (pl1 b p h1 h2)
      os := hs.os.trans inv.stp.os
      tape := hs.tape.trans inv.stp.tape
      output := hs.output.trans inv.stp.output
      size := Nat.le_trans inv.stp.size hs.size
      fr := fun k hk hyp => by
        have h1 : w.heap[k]? = w0.heap[k]? := inv.stp.fr k hk fun b p hc hg hp => hyp b p (hc.imp id fun ⟨c1, c2⟩ => ⟨c1, hdead0 b p hp c2⟩) hg hp
        rw [← h1]
        refine hs.fr k (Nat.lt_of_lt_of_le hk inv.stp.size) fun b' p' hc hg hp he => ?_
        rw [cut_some] at hp
        rcases inv.stp.live b' p' (live b' hg) hp.2 with ⟨q1, q2⟩ | ⟨q1, q2 | ⟨b0, p0, q2, q3, q4, q5⟩⟩
        · have hb0 := hR0 b' p' q2
          refine hyp b' p' ?_ q1 q2 he
          rcases hc with hc | ⟨hc1, hc2⟩
          · rcases hD.bfl with hf | hf
            · left; omega
            · omega
          · rcases hD.bfd with hf | hf
            · right
              refine ⟨by omega, ?_⟩
              by_cases hW : (T i).W b'
              · show (repB s0 T st (plus S i) os.length b').map Prod.fst = none
                rw [G1 b' hW, hc2]; rfl
              · exact absurd hc2 ((hD.keep htk b' hp.1 hg hW).2 hc1)
            · omega
        · omega
        · refine hyp b0 p0 (.inr ⟨q2, ?_⟩) q3 q4 (by omega)
          refine hdead0 b0 p0 q4 ?_
          cases hx : (repB s0 T st S os.length b0).map Prod.fst with
          | none => rfl
          | some y =>
            have := inv.stp.rel.inj b0 b' p0 p' (by show (repB s0 T st S os.length b0).map Prod.fst ≠ none; rw [hx]; simp) (live b' hg) (inv.stp.le _ _ q4) hp.2 (by omega)
            subst this
            have := hR0 b0 p0 q4
            omega }
  · rcases F3 b p hb with h | ⟨h1, h2, h3⟩
    · rcases inv.own b p h with h | ⟨j, h1, h2, h3⟩
      · exact .inl h
      · exact .inr ⟨j, h1, by simp [plus, h2], h3⟩
    · exact .inr ⟨i, hlt, plus_self S i, htk, h2, h3⟩
  · have := inv.defers
    cases o.dst <;> exact this
  · have := inv.size
    cases o.dst <;> simpa [Act.put] using this
end
end Go.E
