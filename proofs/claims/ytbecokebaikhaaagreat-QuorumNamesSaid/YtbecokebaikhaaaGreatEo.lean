/-
  E, fifteenth text: Go's own functions; operations with calls.
-/
import Derived.Test.YtbecokebaikhaaaGreatEn
namespace Go.E
open Go Go.RowKit Go.V
set_option linter.unusedVariables false
set_option linter.unusedSimpArgs false
section
variable {R : Type} {bad : R} {P : Program} {fl fd : Nat} {env : En} {h : H} {nx : Nat} {k : V → H → Nat → R}
def BuiltOk (P : Program) (fl fd : Nat) (b : Builtin) (ts : List TypeId) (vs : List V) (h : H) (nx : Nat) (v : V) (h' : H) (nx' : Nat) : Prop :=
  ∀ ρ w xs ty consts, VRs ρ vs xs → Rel ρ h.get nx w → ∃ x ρ' w', (builtin b ts.toArray ty consts xs.toArray).run P w = .ok (.value x) w' ∧ VR ρ' v x ∧ Stp fl fd ρ h.get nx w ρ' h'.get nx' w'
def OutB (P : Program) (fl fd : Nat) (b : Builtin) (ts : List TypeId) (vs : List V) (h : H) (nx : Nat) (k : V → H → Nat → R) (e : R) : Prop := ∃ v h' nx', BuiltOk P fl fd b ts vs h nx v h' nx' ∧ e = k v h' nx'
theorem out_ifB {b : Bool} {e : R} {S : R → Prop} (h : b = true → Out bad e S) : Out bad (okK bad b e) S := out_if h
theorem pureB_out {b : Builtin} {ts : List TypeId} {vs : List V} {v : V} (hp : ∀ ρ xs, VRs ρ vs xs → ∀ w ty consts, ∃ x, (builtin b ts.toArray ty consts xs.toArray).run P w = .ok (.value x) w ∧ VR ρ v x) : Out bad (k v h nx) (OutB P fl fd b ts vs h nx k) :=
  .inr ⟨v, h, nx, fun ρ w xs ty consts hv hr => by
    obtain ⟨x, h1, h2⟩ := hp ρ xs hv w ty consts
    exact ⟨x, ρ, w, h1, h2, Stp.refl hr⟩, rfl⟩
theorem intLen_ok (m : Bool) (n : Nat) {ts : List TypeId} {vs : List V} (hp : ∀ ρ xs, VRs ρ vs xs → ∀ w ty consts, (builtin .len ts.toArray ty consts xs.toArray).run P w = .ok (.value (goInt (n : Int))) w) : Out bad (intLen m n h nx bad k) (OutB P fl fd .len ts vs h nx k) := by
  unfold intLen
  refine out_if fun hn => ?_
  have hn := blt_t hn
  rw [natK_eq]
  refine pureB_out fun ρ xs hv w ty consts => ⟨_, hp ρ xs hv w ty consts, .at _ _ ?_⟩
  have := AR.int (ρ := ρ) .i64 n (show n < 18446744073709551616 by omega)
  rwa [wrap_lo (k := .i64) hn] at this
theorem VRs.one {ρ : Plc} {v : V} {xs : List Value} (h : VRs ρ [v] xs) : ∃ x, xs = [x] ∧ VR ρ v x := by
  cases h with
  | cons _ x _ xs h hs => cases hs; exact ⟨x, rfl, h⟩
theorem VRs.two {ρ : Plc} {u v : V} {xs : List Value} (h : VRs ρ [u, v] xs) : ∃ x y, xs = [x, y] ∧ VR ρ u x ∧ VR ρ v y := by
  cases h with
  | cons _ x _ xs h hs =>
    obtain ⟨y, rfl, hy⟩ := hs.one
    exact ⟨x, y, rfl, h, hy⟩
theorem len_ok {Γ : Ctx} (hΓ : ∀ t ti, Γ.ty.get t = some ti → TyOk P t ti) (m : Bool) (v : V) (t : TypeId) (ts : List TypeId) : Out bad (tyK bad Γ t fun ti => match ti.k with
      | .ar n _ => intLen m n h nx bad k
      | .pt e => tyK bad Γ e fun te => (match te.k with | .ar n _ => intLen m n h nx bad k | _ => bad)
      | tk => atK bad v fun a => match lenT tk a with | some n => intLen m n h nx bad k | none => bad) (OutB P fl fd .len (t :: ts) [v] h nx k) := by
  refine (tyK_ok hΓ t _).out fun ti hti => ?_
  split
  · rename_i n e hk
    refine intLen_ok m n fun ρ xs hv w ty consts => ?_
    obtain ⟨x, rfl, hx⟩ := hv.one
    simp [builtin, Builtin.len_, underlying, hti.ar hk]
  · rename_i e hk
    refine (tyK_ok hΓ e _).out fun te hte => ?_
    split
    · rename_i n e' hk2
      refine intLen_ok m n fun ρ xs hv w ty consts => ?_
      obtain ⟨x, rfl, hx⟩ := hv.one
      simp [builtin, Builtin.len_, underlying, hti.pt hk, hte.ar hk2]
    · exact .inl rfl
  · refine (atK_ok v _).out fun a ha => ?_
    subst ha
    split
    · rename_i n hn
      refine intLen_ok m n fun ρ xs hv w ty consts => ?_
      obtain ⟨x, rfl, hx⟩ := hv.one
      unfold lenT at hn
      split at hn <;> first | (cases hn; done) | skip
      · rename_i hk
        cases hn
        have hx := hx.atom
        cases hx
        simp [builtin, Builtin.len_, underlying, hti.sl hk]
      · rename_i hk
        cases hn
        have hx := hx.atom
        cases hx
        simp [builtin, Builtin.len_, underlying, hti.sl hk]
      · rename_i hk
        cases hn
        have hx := hx.atom
        cases hx
        simp [builtin, Builtin.len_, underlying, hti.sl hk]
      · rename_i hk
        cases hn
        have hx := hx.atom
        cases hx with
        | str y _ _ h1 h2 => simp [builtin, Builtin.len_, underlying, hti.str hk, h1]
    · exact .inl rfl
/-- Atoms in a row. -/
inductive ARs (ρ : Plc) : List A → List Value → Prop
  | nil : ARs ρ [] []
  | cons (a : A) (x : Value) (as : List A) (xs : List Value) (h : AR ρ a x) (hs : ARs ρ as xs) : ARs ρ (a :: as) (x :: xs)
theorem atsK_ok : ∀ (vs : List V) (k : List A → R), Ok1 bad (builtinK.atsK bad vs k) k fun as => ∀ ρ xs, VRs ρ vs xs → ARs ρ as xs
  | [], k => .inr ⟨[], fun ρ xs h => by cases h; exact .nil, rfl⟩
  | v :: vs, k => by
    cases v with
    | «at» a =>
      show Ok1 bad (builtinK.atsK bad vs fun as => k (a :: as)) k _
      refine (atsK_ok vs _).bind fun as has => .inr ⟨_, fun ρ xs h => ?_, rfl⟩
      cases h with
      | cons _ x _ xs h hs => exact .cons _ _ _ _ h.atom (has ρ xs hs)
    | _ => exact .inl rfl
theorem minK_ok (big : Bool) (f : Value → Value → Sem Value) (hf : f = (if big then Builtin.max2 else Builtin.min2)) : ∀ (ys : List A) (x : A) (k : V → R), Ok1 bad (minK bad big x ys k) k fun v => ∀ ρ x' ys', AR ρ x x' → ARs ρ ys ys' → ∀ w, ∃ z, (ys'.foldlM f x').run P w = .ok z w ∧ VR ρ v z
  | [], x, k => .inr ⟨_, fun ρ x' ys' hx hy w => by cases hy; exact ⟨x', by simp, .at _ _ hx⟩, rfl⟩
  | y :: ys, x, k => by
    unfold minK
    split
    · rename_i ka a kb b
      refine out_ok1 fun hk => ?_
      have hk := kn_inj hk
      subst hk
      have step : ∀ (c : Nat), (∀ ρ x' y', AR ρ (.int ka a) x' → AR ρ (.int ka b) y' → ∀ w, ∃ z, (f x' y').run P w = .ok z w ∧ AR ρ (.int ka c) z) → Ok1 bad (minK bad big (.int ka c) ys k) k fun v => ∀ ρ x' ys', AR ρ (.int ka a) x' → ARs ρ (.int ka b :: ys) ys' → ∀ w, ∃ z, (ys'.foldlM f x').run P w = .ok z w ∧ VR ρ v z := by
        intro c hc
        refine (minK_ok big f hf ys (.int ka c) k).mono fun v hv ρ x' ys' hx hy w => ?_
        cases hy with
        | cons _ y' _ ys' hy hys =>
          obtain ⟨z, h1, h2⟩ := hc ρ x' y' hx hy w
          obtain ⟨z2, h3, h4⟩ := hv ρ z ys' h2 hys w
          exact ⟨z2, by simp [List.foldlM_cons, h1, h3], h4⟩
      cases big with
      | false =>
        simp only [Bool.false_eq_true, if_false] at hf
        subst hf
        simp only [cond_false]
        cases hlt : Nat.blt (sb ka b) (sb ka a) with
        | true =>
          have hlt := blt_t hlt
          refine step b fun ρ x' y' hx hy w => ?_
          cases hx with
          | int _ _ ha => cases hy with
            | int _ _ hb => exact ⟨_, by simp [Builtin.min2, (sb_lt hb ha).2 hlt], .int _ _ hb⟩
        | false =>
          have hlt := blt_f hlt
          refine step a fun ρ x' y' hx hy w => ?_
          cases hx with
          | int _ _ ha => cases hy with
            | int _ _ hb =>
              have : ¬ (ka.wrap (b : Int) < ka.wrap (a : Int)) := fun h => hlt ((sb_lt hb ha).1 h)
              exact ⟨_, by simp [Builtin.min2, this], .int _ _ ha⟩
      | true =>
        simp only [if_true] at hf
        subst hf
        simp only [cond_true]
        cases hlt : Nat.blt (sb ka a) (sb ka b) with
        | true =>
          have hlt := blt_t hlt
          refine step b fun ρ x' y' hx hy w => ?_
          cases hx with
          | int _ _ ha => cases hy with
            | int _ _ hb => exact ⟨_, by simp [Builtin.max2, (sb_lt ha hb).2 hlt], .int _ _ hb⟩
        | false =>
          have hlt := blt_f hlt
          refine step a fun ρ x' y' hx hy w => ?_
          cases hx with
          | int _ _ ha => cases hy with
            | int _ _ hb =>
              have : ¬ (ka.wrap (a : Int) < ka.wrap (b : Int)) := fun h => hlt ((sb_lt ha hb).1 h)
              exact ⟨_, by simp [Builtin.max2, this], .int _ _ ha⟩
    · exact .inl rfl
theorem elem2K_ok {Γ : Ctx} (hΓ : ∀ t ti, Γ.ty.get t = some ti → TyOk P t ti) {t : TypeId} {ti : TI} (hT : TyOk P t ti) (k : Nat → TI → R) : Ok2 bad (elem2K bad Γ ti.k k) k fun e te => P.underlying t = some (.slice e) ∧ TyOk P e te := by
  unfold elem2K tyK
  split
  · rename_i e he
    split
    · rename_i te hte
      exact .inr ⟨e, te, ⟨hT.sl he, hΓ e te hte⟩, rfl⟩
    · exact .inl rfl
  · exact .inl rfl
theorem builtinK_ok {Γ : Ctx} (hΓ : ∀ t ti, Γ.ty.get t = some ti → TyOk P t ti) (hf : fd ≤ fl) (m : Bool) (b : Builtin) (ts : List TypeId) (vs : List V) : Out bad (builtinK bad Γ m fl fd b ts vs h nx k) (OutB P fl fd b ts vs h nx k) := by
  unfold builtinK
  split
  · split
    · exact len_ok hΓ m _ _ _
    · exact .inl rfl
  · split
    · rename_i x vs
      refine (atsK_ok vs _).out fun ys hys => (minK_ok (P := P) false Builtin.min2 rfl ys x _).out fun v hv => pureB_out fun ρ xs hvs w ty consts => ?_
      cases hvs with
      | cons _ x' _ xs' hx hxs =>
        obtain ⟨z, h1, h2⟩ := hv ρ x' xs' hx.atom (hys ρ xs' hxs) w
        exact ⟨z, by simp [builtin, Builtin.min_, h1], h2⟩
    · exact .inl rfl
  · split
    · rename_i x vs
      refine (atsK_ok vs _).out fun ys hys => (minK_ok (P := P) true Builtin.max2 rfl ys x _).out fun v hv => pureB_out fun ρ xs hvs w ty consts => ?_
      cases hvs with
      | cons _ x' _ xs' hx hxs =>
        obtain ⟨z, h1, h2⟩ := hv ρ x' xs' hx.atom (hys ρ xs' hxs) w
        exact ⟨z, by simp [builtin, Builtin.max_, h1], h2⟩
    · exact .inl rfl
  · -- append
    split
    · rename_i s x t t2 ts
      refine (tyK_ok hΓ t _).out fun ti hti => (elem2K_ok hΓ hti _).out fun e te he => (tyK_ok hΓ t2 _).out fun ti2 hti2 => out_if fun hni => ?_
      obtain ⟨u2, hu2, hn2⟩ := notInt_ok hti2 hni
      refine (lenA_ok (P := P) x _).out fun n hn => (srcK_ok (P := P) (nx := nx) m x te.size n _).out fun q hq => ?_
      rcases appK_ok (bad := bad) (h := h) (nx := nx) m hf he.1 he.2 hu2 hn2 s n q k with e1 | ⟨v, h', nx', hok, e1⟩
      · exact .inl e1
      · refine .inr ⟨v, h', nx', fun ρ w xs ty consts hvs hr => ?_, e1⟩
        obtain ⟨s', x', rfl, hs', hx'⟩ := hvs.two
        obtain ⟨cs, c1, c2, c3⟩ := hq ρ w x' hr hx'.atom
        obtain ⟨y, ρ', w', h1, h2, h3⟩ := hok ρ w s' x' ty hs'.atom hr ⟨hn ρ x' hx'.atom w, cs, c1, c2, c3⟩
        refine ⟨y, ρ', w', ?_, h2, h3⟩
        have ext : (Builtin.append_ (t :: t2 :: ts).toArray ty [s', x'].toArray) = Builtin.append_ #[t, t2] ty #[s', x'] := rfl
        simp only [builtin, ext, Sem.run_bind, h1, Result.andThen_ok, Sem.run_pure]
    · exact .inl rfl
  · -- copy
    split
    · rename_i d x t ts
      refine (tyK_ok hΓ t _).out fun ti hti => (elem2K_ok hΓ hti _).out fun e te he => out_if fun hsl => (lenA_ok (P := P) d _).out fun p hp => (lenA_ok (P := P) x _).out fun n0 hn0 => ?_
      rw [natK_eq]
      refine out_if fun hlt => ?_
      have hlt := blt_t hlt
      have hmin : (bif Nat.ble n0 p then n0 else p) = Nat.min n0 p := by
        rw [ble_dec]
        by_cases h : n0 ≤ p
        · simp only [h, decide_true, cond_true]; exact (Nat.min_eq_left h).symm
        · simp only [h, decide_false, cond_false]; exact (Nat.min_eq_right (by omega)).symm
      rw [hmin] at hlt ⊢
      generalize hnn : Nat.min n0 p = n at hlt ⊢
      refine (srcK_ok (P := P) (nx := nx) m x te.size n _).out fun q hq => ?_
      have fin : ∀ ρ : Plc, VR ρ (.at (.int .i64 n)) (goInt (n : Int)) := fun ρ => by
        have := AR.int (ρ := ρ) .i64 n (show n < 18446744073709551616 by omega)
        rw [wrap_lo (k := .i64) hlt] at this
        exact .at _ _ this
      have sl : ∀ ρ d', AR ρ d d' → ∃ base l c, d' = .slice base l c := fun ρ d' hd => by
        cases hd <;> first | exact ⟨_, _, _, rfl⟩ | cases hsl
      have dl : ∀ ρ base l c w, AR ρ d (.slice base l c) → (Builtin.lenOf (.slice base l c)).run P w = .ok p w → l = p := fun ρ base l c w _ h => by simpa [Builtin.lenOf] using h
      cases h0 : Nat.beq n 0 with
      | true =>
        have h0 := Nat.eq_of_beq_eq_true h0
        refine .inr ⟨_, h, nx, fun ρ w xs ty consts hvs hr => ?_, rfl⟩
        obtain ⟨d', x', rfl, hd', hx'⟩ := hvs.two
        obtain ⟨cs, c1, c2, c3⟩ := hq ρ w x' hr hx'.atom
        obtain ⟨base, l, c, rfl⟩ := sl ρ d' hd'.atom
        have hl := dl ρ base l c w hd'.atom (hp ρ _ hd'.atom w)
        subst hl
        have : cs = [] := List.eq_nil_of_length_eq_zero (by rw [c2, h0, Nat.zero_mul])
        subst this
        refine ⟨goInt (n : Int), ρ, w, ?_, fin ρ, Stp.refl hr⟩
        have hq0 := c3 w rfl
        have hx0 := hn0 ρ x' hx'.atom w
        cases base <;> simp [builtin, Builtin.copy_, underlying, he.1, he.2.run_size, hx0, hnn, hq0, storeCells]
      | false =>
        rw [cond_false]
        have h0 := Nat.ne_of_beq_eq_false h0
        have common : ∀ (b o : Nat), (∀ ρ d', AR ρ d d' → ∃ pl l c, ρ b = some pl ∧ d' = .slice (some ⟨pl.blk, pl.sh + o, none⟩) l c ∨ n = 0) → Out bad (okK bad (Nat.ble fl b) (cellsK bad h b fun bt r => r.upd bad m o (Nat.mul n te.size) q fun r => setK bad h b (.cells bt r) fun h => k (.at (.int .i64 n)) h nx)) (OutB P fl fd .copy (t :: ts) [.at d, .at x] h nx k) := by
          intro b o hd
          refine out_if fun hfl => (cellsK_ok h b _).out fun bt r hb => (upd_ok bad m r o (Nat.mul n te.size) q _).out fun r' hr' => (setK_ok b _ _).out fun h' hget => .inr ⟨_, h', nx, fun ρ w xs ty consts hvs hr => ?_, rfl⟩
          have hfl := Nat.le_of_ble_eq_true hfl
          obtain ⟨d', x', rfl, hd', hx'⟩ := hvs.two
          obtain ⟨cs, c1, c2, c3⟩ := hq ρ w x' hr hx'.atom
          obtain ⟨pl, l, c, hdd⟩ := hd ρ d' hd'.atom
          obtain ⟨hp1, rfl⟩ := hdd.resolve_right h0
          have hl := dl ρ _ l c w hd'.atom (hp ρ _ hd'.atom w)
          subst hl
          obtain ⟨w', s1, s2⟩ := mem_over (P := P) (fl := fl) (fd := fd) hr hb hp1 hfl c1.one (fun cs0 hcs0 => by
            have := hr' ρ cs0 cs hcs0 c1 c2
            exact ⟨by rw [c2]; exact this.1, this.2⟩) hget
          refine ⟨goInt (n : Int), ρ, w', ?_, fin ρ, s2⟩
          have hq0 := c3 w rfl
          have hx0 := hn0 ρ x' hx'.atom w
          simp [builtin, Builtin.copy_, underlying, he.1, he.2.run_size, hx0, hnn, hq0, s1]
        have np : ∀ ρ d' l, AR ρ d d' → (Builtin.lenOf d').run P default = .ok p default → d' = .slice none l l → True := fun _ _ _ _ _ _ => trivial
        split
        · rename_i b o l c
          refine common b o fun ρ d' hd => ?_
          have hpl := hp ρ d' hd default
          cases hd with
          | slice _ _ _ _ o' pl h1 h2 h3 h4 =>
            have hl : l = p := by simpa [Builtin.lenOf] using hpl
            refine ⟨pl, l, c, ?_⟩
            rcases h4 with h4 | h4
            · left; rw [h4]; exact ⟨h1, rfl⟩
            · right
              have : p = 0 := by omega
              rw [← hnn, this]; exact Nat.min_zero n0
        · rename_i b o l z
          refine common b o fun ρ d' hd => ?_
          have hpl := hp ρ d' hd default
          cases hd with
          | slu _ _ _ _ c o' pl h1 h2 h3 h4 h5 =>
            have hl : l = p := by simpa [Builtin.lenOf] using hpl
            refine ⟨pl, l, c, ?_⟩
            rcases h4 with h4 | h4
            · left; rw [h4]; exact ⟨h1, rfl⟩
            · right
              have : p = 0 := by omega
              rw [← hnn, this]; exact Nat.min_zero n0
        · exact .inl rfl
    · exact .inl rfl
  · exact .inl rfl
end
end Go.E
