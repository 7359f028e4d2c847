/-
  E, seventeenth text, sixth part: a region whose order is open.
-/
import Derived.Test.YtbecokebaikhaaaGreatEqe
namespace Go.E
open Go Go.RowKit Go.V
set_option linter.unusedVariables false
set_option linter.unusedSimpArgs false
theorem Res.some {P : Program} {Φ : Value → World → Prop} {r : Result Next} (hr : Res P Φ r) : ∃ x w, Φ x w := by
  unfold Res at hr
  split at hr
  · exact ⟨_, _, hr⟩
  · exact ⟨_, _, hr⟩
  · obtain ⟨e, w', fr, ⟨v, _, h⟩, _⟩ := hr []
    exact ⟨_, _, h⟩
  · exact hr.elim
section
variable {P : Program} {n fl fd : Nat} {os : List Oper} {s0 : St} {T : Nat → D} {st : Nat → St} {S : Nat → Bool} {ρ0 ρ : Plc} {w0 w : World} {a0 a : Act} {i : Nat}
theorem rep_no {κ β : Type} {c : κ → β} {wr : Nat → κ → Option β} {k : κ} (h : ∀ j, S j = false) : ∀ N, rep c wr S N k = c k
  | 0 => rfl
  | N + 1 => by rw [rep_skip fun hs => by rw [h] at hs; cases hs]; exact rep_no h N
theorem inv_start (hT : TOk P n fl fd os s0 T st os.length) (he : EnvOk ρ0 n s0.env a0) (hr : Rel ρ0 s0.h.get s0.nx w0) (h : ∀ j, S j = false) : Inv n fl fd os s0 T st ρ0 w0 S ρ0 a0 w0 := by
  have hB : ∀ b, repB s0 T st S os.length b = (s0.h.get b).map (·, s0.nx) := fun b => rep_no h _
  have hSl : ∀ t, repS os s0 T st S os.length t = (s0.env.get t).map (·, s0.nx) := fun t => rep_no h _
  have hB' : (fun b => (repB s0 T st S os.length b).map Prod.fst) = s0.h.get := funext fun b => by
    rw [hB]; cases s0.h.get b <;> rfl
  have hcut : cut ρ0 s0.nx = ρ0 := funext fun b => by
    unfold cut
    split
    · rfl
    · rename_i hb
      cases hx : ρ0 b with
      | none => rfl
      | some p => exact absurd (hr.dom b p hx).1 hb
  have hN : s0.nx ≤ (st os.length).nx := by
    have := hT.mono (Nat.le_refl _) os.length 0 (by omega) (Nat.le_refl _)
    rwa [hT.st0] at this
  refine ⟨?_, fun b p hb => .inl (hr.dom b p hb).1, he.defers, he.size, fun t v m hv => ?_, fun b B m hb => ?_⟩
  · rw [hB']
    exact ⟨fun _ _ h => h, hN, ⟨fun b p hb => ⟨by have := (hr.dom b p hb).1; omega, (hr.dom b p hb).2⟩, hr.blk, hr.inj⟩, fun _ _ h => .inl h, fun _ _ => .inl rfl, fun b p h1 h2 => .inl ⟨h1, h2⟩, rfl, rfl, rfl, Nat.le_refl _, fun _ _ _ => rfl⟩
  · rw [hSl] at hv
    cases hx : s0.env.get t with
    | none => rw [hx] at hv; cases hv
    | some u =>
      rw [hx] at hv
      cases hv
      rw [hcut]
      exact he.get t _ hx
  · rw [hB] at hb
    cases hx : s0.h.get b with
    | none => rw [hx] at hb; cases hb
    | some u =>
      rw [hx] at hb
      cases hb
      rw [hcut]
      exact hr.blk b _ hx
def upTo (i : Nat) : Nat → Bool := fun j => Nat.blt j i
theorem upTo_succ (i : Nat) : plus (upTo i) i = upTo (i + 1) := funext fun j => by
  unfold plus upTo
  rw [Bool.eq_iff_iff, Bool.or_eq_true]
  constructor
  · rintro (h | h)
    · exact Nat.ble_eq_true_of_le (by have := blt_t h; omega)
    · exact Nat.ble_eq_true_of_le (by have := Nat.eq_of_beq_eq_true h; omega)
  · intro h
    have := blt_t h
    by_cases e : j = i
    · right; subst e; exact Nat.beq_refl _
    · left; exact Nat.ble_eq_true_of_le (by omega)
theorem upTo_t {i j : Nat} (h : j < i) : upTo i j = true := Nat.ble_eq_true_of_le h
theorem upTo_f {i j : Nat} (h : i ≤ j) : upTo i j = false := by
  cases hb : upTo i j with
  | false => rfl
  | true => have := blt_t hb; omega
theorem inv_upTo (hT : TOk P n fl fd os s0 T st os.length) (hS : Slots os) (hd : os.all (dstB n) = true) (he : EnvOk ρ0 n s0.env a0) (hr : Rel ρ0 s0.h.get s0.nx w0) :
    ∀ i, i ≤ os.length → (∃ ρ a w, Inv n fl fd os s0 T st ρ0 w0 (upTo i) ρ a w) ∧ ∀ b B, (st i).h.get b = some B → b < (st i).nx := by
  have sup : ∀ i, i ≤ os.length → (∃ ρ a w, Inv n fl fd os s0 T st ρ0 w0 (upTo i) ρ a w) → ∀ b B, (st i).h.get b = some B → b < (st i).nx := fun i hi ⟨ρ, a, w, inv⟩ b B hb => by
    have e : repB s0 T st (upTo i) os.length b = repB s0 T st allS i b := rep_read hi fun j hj _ => ⟨fun h => upTo_t h, fun h => upTo_f h⟩
    have h1 := (canB hT b i hi).1
    rw [hb, ← e] at h1
    obtain ⟨m, hm⟩ := fst_some h1
    obtain ⟨p, hp, _⟩ := inv.blk b B m hm
    have hmono := hT.mono (Nat.le_refl _)
    rcases inv.own b p hp with h2 | ⟨j, hj, h2, _, _, h3⟩
    · have := hmono i 0 (by omega) hi
      rw [hT.st0] at this
      omega
    · have hji : j < i := blt_t h2
      have := hmono i (j + 1) (by omega) hi
      omega
  intro i
  induction i with
  | zero => intro hi; have h1 : ∃ ρ a w, Inv n fl fd os s0 T st ρ0 w0 (upTo 0) ρ a w := ⟨ρ0, a0, w0, inv_start hT he hr fun j => upTo_f (Nat.zero_le _)⟩
            exact ⟨h1, sup 0 hi h1⟩
  | succ i ih =>
    intro hi
    obtain ⟨⟨ρ, a, w, inv⟩, hsup⟩ := ih (by omega)
    have ho : os[i]? = some os[i] := List.getElem?_eq_getElem (by omega)
    have hdo : dstB n os[i] = true := List.all_eq_true.1 hd _ (List.getElem_mem _)
    have hn : Next1 os (upTo i) i := fun j hj hne _ => ⟨fun h => upTo_t h, fun h => upTo_f (by omega)⟩
    have h1 : ∃ ρ a w, Inv n fl fd os s0 T st ρ0 w0 (upTo (i + 1)) ρ a w := by
      rw [← upTo_succ]
      cases htk : (T i).tk with
      | true =>
        obtain ⟨x, w', ρ', h⟩ := (inv_yes hT hS inv (fun b p h => (hr.dom b p h).1) ho hdo (upTo_f (Nat.le_refl _)) hn htk hsup).some
        exact ⟨ρ', _, w', h⟩
      | false => exact ⟨ρ, _, w, inv_no hT hS inv ho hdo (upTo_f (Nat.le_refl _)) hn htk⟩
    exact ⟨h1, sup (i + 1) hi h1⟩
/-- How many have not been run. -/
def cnt (S : Nat → Bool) : Nat → Nat
  | 0 => 0
  | n + 1 => cnt S n + (bif S n then 0 else 1)
theorem cnt_zero {S : Nat → Bool} : ∀ {N : Nat}, cnt S N = 0 → ∀ j, j < N → S j = true
  | 0, _, j, hj => by omega
  | N + 1, h, j, hj => by
    unfold cnt at h
    by_cases e : j = N
    · subst e
      cases hs : S j with
      | true => rfl
      | false => rw [hs, cond_false] at h; omega
    · exact cnt_zero (S := S) (N := N) (by omega) j (by omega)
theorem cnt_plus {S : Nat → Bool} {i : Nat} (hS : S i = false) : ∀ {N : Nat}, cnt (plus S i) N + (if i < N then 1 else 0) = cnt S N
  | 0 => by simp [cnt]
  | N + 1 => by
    have ih := cnt_plus hS (N := N)
    unfold cnt
    by_cases e : N = i
    · subst e
      rw [plus_self, hS, cond_true, cond_false, if_pos (by omega)]
      rw [if_neg (by omega)] at ih
      omega
    · rw [plus_ne e]
      by_cases h : i < N
      · rw [if_pos h] at ih; rw [if_pos (by omega)]; omega
      · rw [if_neg h] at ih; rw [if_neg (by omega)]; omega
def lst (listed : Array Bool) : Nat → Bool := fun j => listed.getD j false
theorem any_ok (hT : TOk P n fl fd os s0 T st os.length) (hS : Slots os) (hd : os.all (dstB n) = true) (hR0 : ∀ b p, ρ0 b = some p → b < s0.nx) (hsup : ∀ i, i ≤ os.length → ∀ b B, (st i).h.get b = some B → b < (st i).nx)
    {Q : Exit → Act → World → Prop} (hQ : ∀ S ρ a w, (∀ j, j < os.length → S j = true) → Inv n fl fd os s0 T st ρ0 w0 S ρ a w → Q .normal a w) :
    ∀ (fuel : Nat) (listed : Array Bool) (ρ : Plc) (a : Act) (w : World), listed.size = os.length → (∀ i, lst listed i = true → ∀ j, bit (mask os i) j = true → lst listed j = true) → cnt (lst listed) os.length ≤ fuel → Inv n fl fd os s0 T st ρ0 w0 (lst listed) ρ a w → wpAny P .any os.toArray Q fuel listed a w := by
  have ready_mem : ∀ (listed : Array Bool), listed.size = os.length → ∀ i, i ∈ Region.ready .any os.toArray listed ↔ lst listed i = false ∧ ∃ o, os[i]? = some o ∧ ∀ e ∈ o.after.toList, Region.binds .any e = true → lst listed e.on = true := by
    intro listed hsz i
    unfold Region.ready
    rw [List.mem_filter, List.mem_range, List.size_toArray]
    constructor
    · rintro ⟨h1, h2⟩
      simp only [Bool.and_eq_true, Bool.not_eq_true', List.getElem?_toArray] at h2
      obtain ⟨h2, h3⟩ := h2
      have hoi : os[i]? = some os[i] := List.getElem?_eq_getElem h1
      rw [hoi] at h3
      simp only [Option.map_some, Option.getD_some] at h3
      refine ⟨?_, os[i], hoi, fun e he hb => ?_⟩
      · unfold lst
        have hl : i < listed.size := by omega
        simpa [hl] using h2
      · rw [Array.all_eq_true_iff_forall_mem] at h3
        have := h3 e (by simpa using he)
        rw [hb] at this
        simpa [lst] using this
    · rintro ⟨h1, o, h2, h3⟩
      have hlt := at_lt h2
      refine ⟨hlt, ?_⟩
      simp only [Bool.and_eq_true, Bool.not_eq_true', List.getElem?_toArray, h2, Option.map_some, Option.getD_some]
      constructor
      · unfold lst at h1
        have hl : i < listed.size := by omega
        simpa [hl] using h1
      · rw [Array.all_eq_true_iff_forall_mem]
        intro e he
        cases hb : Region.binds .any e with
        | false => rfl
        | true => simpa [lst] using h3 e (by simpa using he) hb
  have done : ∀ (listed : Array Bool), listed.size = os.length → Region.ready .any os.toArray listed = [] → ∀ j, j < os.length → lst listed j = true := by
    intro listed hsz hempty j
    induction j using Nat.strongRecOn with
    | _ j ih =>
      intro hj
      cases hl : lst listed j with
      | true => rfl
      | false =>
        have : j ∈ Region.ready .any os.toArray listed := (ready_mem listed hsz j).2 ⟨hl, os[j], List.getElem?_eq_getElem hj, fun e he hb => by
          have := hS.back j os[j] (List.getElem?_eq_getElem hj) e he hb
          exact ih e.on this (by omega)⟩
        rw [hempty] at this
        cases this
  intro fuel
  induction fuel with
  | zero =>
    intro listed ρ a w hsz hdown hc inv
    have hall := cnt_zero (Nat.le_zero.1 hc)
    refine ⟨?_, hQ _ _ _ _ hall inv⟩
    apply List.eq_nil_iff_forall_not_mem.2
    intro i hi
    obtain ⟨h1, o, h2, _⟩ := (ready_mem listed hsz i).1 hi
    rw [hall i (at_lt h2)] at h1
    cases h1
  | succ fuel ih =>
    intro listed ρ a w hsz hdown hc inv
    refine ⟨fun hempty => hQ _ _ _ _ (done listed hsz hempty) inv, fun i hi => ?_⟩
    obtain ⟨hSi, o, ho, hready⟩ := (ready_mem listed hsz i).1 hi
    have hlt := at_lt ho
    have hdo : dstB n o = true := List.all_eq_true.1 hd _ (List.mem_of_getElem? ho)
    have hbefore : ∀ j, bit (mask os i) j = true → lst listed j = true := fun j hj => by
      obtain ⟨e, he, hb, h1 | ⟨_, h1⟩⟩ := mask_bit ho hj
      · rw [← h1]; exact hready e he hb
      · exact hdown e.on (hready e he hb) j h1
    have hn : Next1 os (lst listed) i := fun j hj hne hnl => by
      have hord : ordB i (mask os i) j (mask os j) = true := by
        cases hb : ordB i (mask os i) j (mask os j) with
        | true => rfl
        | false => exact absurd hb hnl
      rcases ordB_iff.1 hord with h1 | h1
      · have hij := hS.low j os[j] (List.getElem?_eq_getElem hj) i h1
        refine ⟨fun h => by omega, fun _ => ?_⟩
        cases hs : lst listed j with
        | false => rfl
        | true =>
          have := hdown j hs i h1
          rw [hSi] at this
          cases this
      · have hji := hS.low i o ho j h1
        exact ⟨fun _ => hbefore j h1, fun h => by omega⟩
    have hl2 : lst (listed.setIfInBounds i true) = plus (lst listed) i := funext fun j => by
      unfold lst
      simp only [Array.getD_eq_getD_getElem?]
      by_cases e : j = i
      · subst e
        rw [plus_self, Array.getElem?_setIfInBounds]
        simp [hsz, hlt]
      · rw [plus_ne e, Array.getElem?_setIfInBounds_ne (fun h => e h.symm)]
    have next : ∀ ρ' a' w', Inv n fl fd os s0 T st ρ0 w0 (plus (lst listed) i) ρ' a' w' → wpAny P .any os.toArray Q fuel (listed.setIfInBounds i true) a' w' := fun ρ' a' w' h => by
      refine ih _ ρ' a' w' (by simpa using hsz) ?_ ?_ (by rw [hl2]; exact h)
      · rw [hl2]
        intro k hk j hj
        rcases plus_or hk with h1 | h1
        · simp [plus, hdown k h1 j hj]
        · subst h1; simp [plus, hbefore j hj]
      · rw [hl2]
        have := cnt_plus hSi (N := os.length)
        rw [if_pos hlt] at this
        omega
    unfold wpOp
    simp only [List.getElem?_toArray, ho]
    have hD := hT.ok i hlt o ho
    have hwant := hD.grd _ _ _ (inv_env hT hS inv ho hSi hn) o rfl
    cases htk : (T i).tk with
    | true =>
      rw [htk] at hwant
      rw [if_pos hwant]
      left
      exact (inv_yes hT hS inv hR0 ho hdo hSi hn htk (hsup i (by omega))).upon fun x w' ⟨ρ', h⟩ => next _ _ _ h
    | false =>
      rw [htk] at hwant
      rw [if_neg (by rw [hwant]; simp)]
      exact next _ _ _ (inv_no hT hS inv ho hdo hSi hn htk)
theorem drawn_ok {R : Type} {bad : R} {Γ : Ctx} (hm : P.follows .mixedOrders = true) (hΓ : ∀ t ti, Γ.ty.get t = some ti → TyOk P t ti) {C : CallF R} (hC : CallOk bad P C) (m : Bool) : DrawOk bad P Γ C m := by
  intro fl fd n os env h nx k hf hd hsl
  have hS := slotsB_ok hsl
  have h0 : TOk P n fl fd os ⟨env, h, nx⟩ (fun _ => ⟨false, .undef, .lf, .lf, 0, 0, fun _ => False, fun _ => False⟩) (fun _ => ⟨env, h, nx⟩) 0 := ⟨rfl, fun j hj => by omega, fun j k hj => by omega⟩
  have h1 : AlOk os (fun _ => ⟨false, .undef, .lf, .lf, 0, 0, fun _ => False, fun _ => False⟩) (fun _ => ⟨env, h, nx⟩) [] 0 := ⟨fun r hr => (by cases hr), fun j hj => by omega⟩
  refine (evD_seen hΓ hC hf m hS (rows os) 0 [] _ _ k rfl (Nat.zero_le _) h0 h1).imp id fun ⟨T, st, hT, e⟩ => ⟨_, _, _, fun ρ a w he hr Q hQ id => ?_, e⟩
  refine wp_region_any hm ?_
  rw [List.size_toArray]
  have hr' : Rel ρ h.get nx { w with drawn := w.drawn + 1 } := ⟨hr.dom, hr.blk, hr.inj⟩
  have hsup := fun i hi => (inv_upTo (s0 := ⟨env, h, nx⟩) hT hS hd he hr' i hi).2
  refine any_ok (ρ0 := ρ) (w0 := { w with drawn := w.drawn + 1 }) hT hS hd (fun b p h => (hr.dom b p h).1) hsup ?_ os.length _ ρ a _ (by simp) ?_ ?_ (inv_start hT he hr' ?_)
  · intro S ρ' a' w' hall inv
    have e1 : (fun b => (repB ⟨env, h, nx⟩ T st S os.length b).map Prod.fst) = (st os.length).h.get := funext fun b => by
      have : repB ⟨env, h, nx⟩ T st S os.length b = repB ⟨env, h, nx⟩ T st allS os.length b := rep_all hall
      rw [this]
      exact (canB hT b os.length (Nat.le_refl _)).1
    have hst := inv.stp
    rw [e1] at hst
    refine hQ ρ' a' w' ⟨inv.defers, inv.size, fun t v hv => ?_⟩ ⟨hst.le, hst.nxle, hst.rel, hst.dom, hst.old, hst.live, hst.os, hst.tape, hst.output, hst.size, hst.fr⟩
    have h2 := (canS hT t os.length (Nat.le_refl _)).1
    rw [hv] at h2
    obtain ⟨m, hm⟩ := fst_some h2
    have e2 : repS os ⟨env, h, nx⟩ T st S os.length t = repS os ⟨env, h, nx⟩ T st allS os.length t := rep_all hall
    exact (inv.slot t v m (e2.trans hm)).mono fun b p h => (cut_some.1 h).2
  · intro i hi
    have : lst (Array.replicate os.length false) i = false := by
      unfold lst
      simp only [Array.getD_eq_getD_getElem?, Array.getElem?_replicate]
      split <;> rfl
    rw [this] at hi
    cases hi
  · have : ∀ (S : Nat → Bool) N, cnt S N ≤ N := fun S N => by
      induction N with
      | zero => exact Nat.le_refl _
      | succ N ih => unfold cnt; cases S N <;> simp <;> omega
    exact this _ _
  · intro j
    unfold lst
    simp only [Array.getD_eq_getD_getElem?, Array.getElem?_replicate]
    split <;> rfl
end
end Go.E
