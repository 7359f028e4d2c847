/-
  E, eighth text: what an operation does: parts, addresses, slices, literals, loads and stores.
-/
import Derived.Test.YtbecokebaikhaaaGreatEg
namespace Go.E
open Go Go.RowKit Go.V
set_option linter.unusedVariables false
set_option linter.unusedSimpArgs false

/-- How an operation comes out. -/
def Res (P : Program) (Φ : Value → World → Prop) : Result Next → Prop
  | .ok (.value x) w' => Φ x w'
  | .ok .skip w' => Φ undef w'
  | .ok (.enter f args) w' => Calls P f args w' (Ret Φ)
  | _ => False
def OpM (P : Program) (fl fd : Nat) (env : En) (h : H) (nx : Nat) (o : Op) (v : V) (h' : H) (nx' : Nat) : Prop :=
  ∀ ρ n a w, EnvOk ρ n env a → Rel ρ h.get nx w → ∀ d ty pos aft g, Res P (fun x w' => ∃ ρ', VR ρ' v x ∧ Stp fl fd ρ h.get nx w ρ' h'.get nx' w') ((execOp a.eval ⟨d, o, ty, pos, aft, g⟩).run P w)
def OutO {R : Type} (P : Program) (fl fd : Nat) (env : En) (h : H) (nx : Nat) (o : Op) (k : V → H → Nat → R) (e : R) : Prop := ∃ v h' nx', OpM P fl fd env h nx o v h' nx' ∧ e = k v h' nx'
def PureOk (P : Program) (env : En) (o : Op) (v : V) : Prop := ∀ ρ n a, EnvOk ρ n env a → ∀ w d ty pos aft g, ∃ x, (execOp a.eval ⟨d, o, ty, pos, aft, g⟩).run P w = .ok (.value x) w ∧ VR ρ v x
section
variable {R : Type} {bad : R} {P : Program} {fl fd : Nat} {env : En} {h : H} {nx : Nat} {o : Op} {k : V → H → Nat → R}
theorem PureOk.out {v : V} (hp : PureOk P env o v) : Out bad (k v h nx) (OutO P fl fd env h nx o k) :=
  .inr ⟨v, h, nx, fun ρ n a w he hr d ty pos aft g => by
    obtain ⟨x, h1, h2⟩ := hp ρ n a he w d ty pos aft g
    rw [h1]
    exact ⟨ρ, h2, Stp.refl hr⟩, rfl⟩
theorem unA_ok (m : Bool) (op : UnOp) (x : A) (k : V → R) : Ok1 bad (unA bad m op x k) k fun r => ∀ ρ u, AR ρ x u → ∀ w, ∃ z, (Op.unary op u).run P w = .ok z w ∧ VR ρ r z := by
  unfold unA
  split
  · rename_i b
    rw [boolK_eq]
    refine .inr ⟨_, fun ρ u hu w => ?_, rfl⟩
    cases hu
    exact ⟨.bool (!b), by simp [Op.unary], .at _ _ (.bool _)⟩
  · rename_i kd a
    rw [natK_eq]
    refine .inr ⟨_, fun ρ u hu w => ?_, rfl⟩
    cases hu with
    | int _ _ ha =>
      refine ⟨.int kd (kd.wrap (0 - kd.wrap a)), by simp [Op.unary, Op.intArith], .at _ _ (.int' (Nat.mod_lt _ (md_pos kd)) ?_)⟩
      rw [wrap_mod]
      refine wrap_congr ?_
      show _ = ((md kd - a : Nat) : Int) % _
      rw [Int.sub_emod, wrap_emod, ← Int.sub_emod, Int.ofNat_sub (Nat.le_of_lt ha), show ((md kd : Int) - a) = (0 - a) + md kd by omega, Int.add_emod_right]
  · rename_i kd a
    rw [natK_eq]
    refine .inr ⟨_, fun ρ u hu w => ?_, rfl⟩
    cases hu with
    | int _ _ ha =>
      have hlt : Nat.sub (Nat.pred (md kd)) a < md kd := by
        have := md_pos kd
        show md kd - 1 - a < md kd
        omega
      refine ⟨_, by simp only [Op.unary, Op.intBits]; rfl, .at _ _ (.int' hlt ?_)⟩
      have hx : BitVec.ofInt kd.bits (if kd.signed = true then -1 else kd.max) = BitVec.allOnes kd.bits := by
        cases kd <;> rfl
      rw [hx]
      congr 1
      rw [BitVec.toNat_xor, ofInt_wrap ha, BitVec.toNat_allOnes, ← md_pow]
      have : (md kd - 1) ^^^ a = md kd - 1 - a := by
        rw [md_pow] at *
        apply Nat.eq_of_testBit_eq
        intro i
        rw [Nat.testBit_xor, Nat.testBit_two_pow_sub_one, show 2 ^ kd.bits - 1 - a = 2 ^ kd.bits - (a + 1) by omega, Nat.testBit_two_pow_sub_succ ha]
        by_cases hi : i < kd.bits
        · simp [hi]
        · simp [hi, Nat.testBit_lt_two_pow (i := i) (Nat.lt_of_lt_of_le ha (Nat.pow_le_pow_right (by decide) (by omega)))]
      exact_mod_cast this
  · exact .inl rfl
theorem cvI_ok (a b : IntKind) {n : Nat} (hn : n < md a) : cvI a b n < md b ∧ b.wrap (a.wrap n) = b.wrap (cvI a b n) := by
  unfold cvI
  cases h1 : Nat.blt n (tp a) with
  | true =>
    rw [cond_true, wrap_lo (blt_t h1)]
    exact ⟨Nat.mod_lt _ (md_pos b), (wrap_mod b n).symm⟩
  | false =>
    have h1 : tp a ≤ n := Nat.le_of_not_lt (blt_f h1)
    rw [cond_false, wrap_hi h1 hn]
    cases h2 : Nat.ble (md b) (md a) with
    | true =>
      have h2 : md b ≤ md a := Nat.le_of_ble_eq_true h2
      rw [cond_true]
      refine ⟨Nat.mod_lt _ (md_pos b), ?_⟩
      rw [wrap_mod]
      refine wrap_congr ?_
      cases a <;> cases b <;> simp only [md] at * <;> omega
    | false =>
      have h2 : ¬ md b ≤ md a := ble_f h2
      rw [cond_false]
      have e : Nat.add n (Nat.sub (md b) (md a)) = n + (md b - md a) := rfl
      rw [e]
      refine ⟨by omega, wrap_congr ?_⟩
      cases a <;> cases b <;> simp only [md] at * <;> omega
theorem partK_ok {t : TypeId} (m : Bool) {ti : TI} (hT : TyOk P t ti) (r : Rope) (o : Nat) (k : V → R) : Ok1 bad (partK bad m ti r o k) k fun v => ∀ ρ cs, RR ρ r cs →
    (ti.agg = true ∧ o + ti.size ≤ cs.length ∧ VR ρ v (.agg ((cs.drop o).take ti.size).toArray)) ∨ (ti.agg = false ∧ ∃ x, cs[o]? = some x ∧ VR ρ v x) := by
  unfold partK
  cases ha : ti.agg with
  | true =>
    rw [cond_true]
    refine (sub_ok bad m r o ti.size _).bind fun r' hr' => .inr ⟨_, fun ρ cs h => .inl ⟨rfl, ?_⟩, rfl⟩
    obtain ⟨h1, h2⟩ := hr' ρ cs h
    exact ⟨h1, .agg _ _ h2⟩
  | false =>
    rw [cond_false]
    split
    · rename_i a hg
      rw [strA_eq]
      refine .inr ⟨_, fun ρ cs h => .inr ⟨rfl, ?_⟩, rfl⟩
      obtain ⟨x, h1, h2⟩ := h.get hg
      exact ⟨x, h1, .at _ _ h2⟩
    · exact .inl rfl
theorem run_part {t : TypeId} {ti : TI} (hT : TyOk P t ti) {cs : List Value} {o : Nat} {x : Value} (w : World)
    (h : (ti.agg = true ∧ x = .agg ((cs.drop o).take ti.size).toArray) ∨ (ti.agg = false ∧ cs[o]? = some x)) : (part t cs.toArray o).run P w = .ok x w := by
  rcases h with ⟨h1, h2⟩ | ⟨h1, h2⟩
  · have := hT.run_agg w
    rw [h1] at this
    subst h2
    simp only [part, Sem.run_bind, this, Result.andThen_ok, if_true, hT.run_size, Sem.run_pure]
    congr 2
    apply Array.ext'
    simp [List.drop_take]
  · have := hT.run_agg w
    rw [h1] at this
    simp [part, this, h2]

/-! Addresses. -/
theorem elemK_ok {Γ : Ctx} (hΓ : ∀ t ti, Γ.ty.get t = some ti → TyOk P t ti) {t : TypeId} {ti : TI} (hT : TyOk P t ti) (k : TI → R) : Ok1 bad (elemK bad Γ ti.k k) k fun te => ∃ e, P.underlying t = some (.slice e) ∧ TyOk P e te := by
  unfold elemK
  split
  · rename_i e he
    exact (tyK_ok hΓ e k).mono fun te hte => ⟨e, hT.sl he, hte⟩
  · exact .inl rfl
def BndV : Option Value → Nat → Nat → Prop
  | none, d, j => j = d
  | some v, _, j => ∃ kd, v = .int kd (j : Int)
theorem bndK_ok (m : Bool) (x : Option Operand) (d : Nat) (k : Nat → R) : Ok1 bad (bndK bad m env x d k) k fun j => ∀ ρ n a, EnvOk ρ n env a → BndV (x.map a.eval) d j := by
  unfold bndK
  split
  · exact .inr ⟨d, fun _ _ _ _ => rfl, rfl⟩
  · rename_i x
    refine (eA_ok m env x _).bind fun a ha => (idxK_ok a k).mono fun j hj ρ n act he => ?_
    exact hj ρ _ (ha ρ n act he)
theorem run_bnds (isS : Bool) {n c l h mm : Nat} {lo hi mx : Option Value} (h1 : BndV lo 0 l) (h2 : BndV hi n h) (h3 : BndV mx c mm) (hno : hi = none → mx = none) (b1 : l ≤ h) (b2 : h ≤ mm) (b3 : mm ≤ c) (w : World) :
    (Instr.sliceBounds isS n c lo hi mx).run P w = .ok (l, h, mm) w := by
  cases lo with
  | none =>
    simp only [BndV] at h1; subst h1
    cases hi with
    | none =>
      have h0 := hno rfl; subst h0
      simp only [BndV] at h2 h3; subst h2; subst h3
      simp [Instr.sliceBounds]
    | some y =>
      obtain ⟨k2, rfl⟩ := h2
      cases mx with
      | none => simp only [BndV] at h3; subst h3; simp [Instr.sliceBounds, run_bound rfl b2]
      | some u => obtain ⟨k3, rfl⟩ := h3; simp [Instr.sliceBounds, run_bound rfl b2, run_bound rfl b3]
  | some x1 =>
    obtain ⟨k1, rfl⟩ := h1
    cases hi with
    | none =>
      have h0 := hno rfl; subst h0
      simp only [BndV] at h2 h3; subst h2; subst h3
      simp [Instr.sliceBounds, run_bound rfl b1]
    | some y =>
      obtain ⟨k2, rfl⟩ := h2
      cases mx with
      | none => simp only [BndV] at h3; subst h3; simp [Instr.sliceBounds, run_bound rfl b2, run_bound rfl b1]
      | some u => obtain ⟨k3, rfl⟩ := h3; simp [Instr.sliceBounds, run_bound rfl b2, run_bound rfl b3, run_bound rfl b1]
theorem packB_sub (l : List UInt8) : ∀ (o c : Nat), packB ((l.drop o).take c) = packB l / 256 ^ o % 256 ^ c := by
  have take : ∀ (l : List UInt8) (c : Nat), packB (l.take c) = packB l % 256 ^ c := by
    intro l
    induction l with
    | nil => intro c; simp [packB]
    | cons b r ih =>
      intro c
      cases c with
      | zero => simp [packB, Nat.mod_one]
      | succ c =>
        have := ih c
        have hb := b.toNat_lt
        show b.toNat + 256 * packB (r.take c) = (b.toNat + 256 * packB r) % 256 ^ (c + 1)
        rw [this, Nat.pow_succ, Nat.mul_comm (256 ^ c)]
        rw [Nat.mod_mul, Nat.add_mul_mod_self_left, Nat.mod_eq_of_lt hb, Nat.add_mul_div_left _ _ (by decide), Nat.div_eq_of_lt hb, Nat.zero_add]
  have drop : ∀ (o : Nat) (l : List UInt8), packB (l.drop o) = packB l / 256 ^ o := by
    intro o
    induction o with
    | zero => intro l; simp
    | succ o ih =>
      intro l
      cases l with
      | nil => simp [packB]
      | cons b r =>
        have hb := b.toNat_lt
        rw [List.drop_succ_cons, ih]
        show _ = (b.toNat + 256 * packB r) / 256 ^ (o + 1)
        rw [Nat.pow_succ, Nat.mul_comm (256 ^ o), ← Nat.div_div_eq_div_mul, Nat.add_mul_div_left _ _ (by decide), Nat.div_eq_of_lt hb, Nat.zero_add]
  intro o c
  rw [take, drop]
theorem sliceK_ok {Γ : Ctx} (hΓ : ∀ t ti, Γ.ty.get t = some ti → TyOk P t ti) (m : Bool) (t : TypeId) (x : Operand) (lo hi mx : Option Operand) (k : V → R) :
    Ok1 bad (sliceK bad Γ m env t x lo hi mx k) k fun v => PureOk P env (.slice t x lo hi mx) v := by
  unfold sliceK
  cases hno : (bif hi.isNone then mx.isNone else true) with
  | false => exact .inl rfl
  | true =>
  have hno' : ∀ (a : Act), hi.map a.eval = none → mx.map a.eval = none := fun a ha => by
    cases hi with
    | some y => cases ha
    | none => cases mx with
      | none => rfl
      | some u => cases hno
  refine (tyK_ok hΓ t _).bind fun ti hti => (eA_ok m env x _).bind fun a ha => ?_
  split
  · -- a string
    rename_i n s
    split
    · rename_i hk
      refine (bndK_ok m lo 0 _).bind fun l hl => (bndK_ok m hi n _).bind fun h hh => ?_
      cases hc : two mx.isNone (two (Nat.ble l h) (Nat.ble h n)) with
      | false => exact .inl rfl
      | true =>
        obtain ⟨c1, c2⟩ := two_t hc
        obtain ⟨c2, c3⟩ := two_t c2
        have c2 := Nat.le_of_ble_eq_true c2
        have c3 := Nat.le_of_ble_eq_true c3
        rw [strA_eq]
        refine .inr ⟨_, fun ρ n' act he w d ty pos aft g => ?_, rfl⟩
        have hx := ha ρ n' act he
        generalize hv : act.eval x = v at hx
        cases hx with
        | str y _ _ e1 e2 =>
          have hm0 : mx.map act.eval = none := by cases mx with | none => rfl | some _ => cases c1
          have hb := run_bnds (P := P) false (n := y.size) (c := y.size) (mm := y.size) (hl ρ n' act he) (e1 ▸ hh ρ n' act he) (show BndV none y.size y.size from rfl) (fun _ => rfl) c2 (by omega) (Nat.le_refl _) w
          refine ⟨.string (y.extract l h), ?_, .at _ _ (.str _ _ _ ?_ ?_)⟩
          · simp [execOp, hv, Instr.sliceAt, Instr.slice, underlying, hti.str hk, hm0, hb]
          · rw [ByteArray.size_extract]; show min h y.size - l = h - l; omega
          · rw [lo8_eq, dn8_eq, ← e2, ← packB_sub]
            rw [ByteArray.data_extract, Array.toList_extract, List.extract_eq_take_drop]; rfl
    · exact .inl rfl
  · -- the nil slice
    refine (elemK_ok hΓ hti _).bind fun te hte => (bndK_ok m lo 0 _).bind fun l hl => (bndK_ok m hi 0 _).bind fun h hh => (bndK_ok m mx 0 _).bind fun c hcm => ?_
    obtain ⟨e, hu, hte⟩ := hte
    cases hc : two (Nat.beq l 0) (two (Nat.beq h 0) (Nat.beq c 0)) with
    | false => exact .inl rfl
    | true =>
      obtain ⟨c1, c2⟩ := two_t hc
      obtain ⟨c2, c3⟩ := two_t c2
      have c1 := Nat.eq_of_beq_eq_true c1
      have c2 := Nat.eq_of_beq_eq_true c2
      have c3 := Nat.eq_of_beq_eq_true c3
      subst c1 c2 c3
      refine .inr ⟨_, fun ρ n' act he w d ty pos aft g => ?_, rfl⟩
      have hx := ha ρ n' act he
      generalize hv : act.eval x = v at hx
      cases hx
      have hb := run_bnds (P := P) true (hl ρ n' act he) (hh ρ n' act he) (hcm ρ n' act he) (hno' act) (Nat.le_refl _) (Nat.le_refl _) (Nat.le_refl _) w
      exact ⟨.slice none 0 0, by simp [execOp, hv, Instr.sliceAt, Instr.slice, underlying, hu, hb, hte.run_size], .at _ _ .nilSlice⟩
  · -- a slice
    rename_i b o n c
    refine (elemK_ok hΓ hti _).bind fun te hte => (bndK_ok m mx c _).bind fun c' hcm => (bndK_ok m hi n _).bind fun h hh => (bndK_ok m lo 0 _).bind fun l hl => ?_
    obtain ⟨e, hu, hte⟩ := hte
    cases hc : two (two (Nat.ble l h) (Nat.ble h c')) (Nat.ble c' c) with
    | false => exact .inl rfl
    | true =>
      obtain ⟨c1, c3⟩ := two_t hc
      obtain ⟨c1, c2⟩ := two_t c1
      have c1 := Nat.le_of_ble_eq_true c1
      have c2 := Nat.le_of_ble_eq_true c2
      have c3 := Nat.le_of_ble_eq_true c3
      rw [strA_eq]
      refine .inr ⟨_, fun ρ n' act he w d ty pos aft g => ?_, rfl⟩
      have hx := ha ρ n' act he
      generalize hv : act.eval x = v at hx
      cases hx with
      | slice _ _ _ _ o' p hp hn hcm' ho =>
        have hb := run_bnds (P := P) true (hl ρ n' act he) (hh ρ n' act he) (hcm ρ n' act he) (hno' act) c1 c2 c3 w
        refine ⟨.slice (if c' = l then some ⟨p.blk, o', none⟩ else some ⟨p.blk, o' + l * te.size, none⟩) (h - l) (c' - l), ?_, .at _ _ ?_⟩
        · simp [execOp, hv, Instr.sliceAt, Instr.slice, underlying, hu, hb, hte.run_size, Addr.add_lit]
        · rw [beq_dec]
          by_cases hcl : c' = l
          · rw [if_pos hcl]
            simp only [hcl, decide_true, cond_true]
            exact .slice _ _ _ _ _ p hp (by show h - l ≤ l - l; omega) (by show l - l ≤ _; omega) (.inr (Nat.sub_self l))
          · rw [if_neg hcl]
            simp only [hcl, decide_false, cond_false]
            exact .slice _ _ _ _ _ p hp (by show h - l ≤ c' - l; omega) (by show c' - l ≤ _; omega) (.inl (by
              show _ = p.sh + (o + l * te.size)
              rcases ho with ho | ho <;> omega))
  · -- a slice of unknown capacity
    rename_i b o n z
    refine (elemK_ok hΓ hti _).bind fun te hte => ?_
    obtain ⟨e, hu, hte⟩ := hte
    cases hz : Nat.beq te.size z with
    | false => exact .inl rfl
    | true =>
    have hz := Nat.eq_of_beq_eq_true hz
    subst hz
    show Ok1 bad (cond true _ bad) k _
    rw [cond_true]
    split
    · rename_i hmx
      refine (bndK_ok m hi n _).bind fun h hh => (bndK_ok m lo 0 _).bind fun l hl => ?_
      cases hc : two (Nat.ble l h) (Nat.ble h n) with
      | false => exact .inl rfl
      | true =>
        obtain ⟨c1, c2⟩ := two_t hc
        have c1 := Nat.le_of_ble_eq_true c1
        have c2 := Nat.le_of_ble_eq_true c2
        rw [strA_eq]
        refine .inr ⟨_, fun ρ n' act he w d ty pos aft g => ?_, rfl⟩
        have hx := ha ρ n' act he
        generalize hv : act.eval x = v at hx
        cases hx with
        | slu _ _ _ _ c o' p hp hn hcm ho hs =>
          have hb := run_bnds (P := P) true (mm := c) (hl ρ n' act he) (hh ρ n' act he) (show BndV none c c from rfl) (fun _ => rfl) c1 (by omega) (Nat.le_refl _) w
          refine ⟨.slice (if c = l then some ⟨p.blk, o', none⟩ else some ⟨p.blk, o' + l * te.size, none⟩) (h - l) (c - l), ?_, .at _ _ ?_⟩
          · simp [execOp, hv, Instr.sliceAt, Instr.slice, underlying, hu, hb, hte.run_size, Addr.add_lit]
          · by_cases hcl : c = l
            · rw [if_pos hcl]
              exact .slu _ _ _ _ (c - l) o' p hp (by show h - l ≤ c - l; omega) (by omega) (.inr (by omega)) (by rw [hcl, Nat.sub_self, Nat.zero_mul]; omega)
            · rw [if_neg hcl]
              have e2 : o' + l * te.size + (c - l) * te.size = o' + c * te.size := by
                have : c = l + (c - l) := by omega
                rw [Nat.add_assoc, ← Nat.add_mul, ← this]
              exact .slu _ _ _ _ (c - l) _ p hp (by show h - l ≤ c - l; omega) (by omega) (.inl (by
                show _ = p.sh + (o + l * te.size)
                rcases ho with ho | ho <;> omega)) (by rw [e2]; exact hs)
    · rename_i mx u
      refine (bndK_ok m _ 0 _).bind fun c' hcm => (bndK_ok m hi 0 _).bind fun h hh => (bndK_ok m lo 0 _).bind fun l hl => ?_
      cases hc : two (two (Nat.ble l h) (Nat.ble h c')) (Nat.ble c' n) with
      | false => exact .inl rfl
      | true =>
        obtain ⟨c1, c3⟩ := two_t hc
        obtain ⟨c1, c2⟩ := two_t c1
        have c1 := Nat.le_of_ble_eq_true c1
        have c2 := Nat.le_of_ble_eq_true c2
        have c3 := Nat.le_of_ble_eq_true c3
        rw [strA_eq]
        refine .inr ⟨_, fun ρ n' act he w d ty pos aft g => ?_, rfl⟩
        have hx := ha ρ n' act he
        generalize hv : act.eval x = v at hx
        cases hx with
        | slu _ _ _ _ c o' p hp hn hcm' ho hs =>
          have hh' : BndV (hi.map act.eval) n h := by
            have := hh ρ n' act he
            cases hi with
            | none => cases hno
            | some y => exact this
          have hcm2 : BndV ((some u).map act.eval) c c' := hcm ρ n' act he
          have hb := run_bnds (P := P) true (c := c) (hl ρ n' act he) hh' hcm2 (fun hn0 => by cases hi with | none => cases hno | some y => cases hn0) c1 c2 (by omega) w
          refine ⟨.slice (if c' = l then some ⟨p.blk, o', none⟩ else some ⟨p.blk, o' + l * te.size, none⟩) (h - l) (c' - l), ?_, .at _ _ ?_⟩
          · simp only [Option.map_some] at hb
            simp [execOp, hv, Instr.sliceAt, Instr.slice, underlying, hu, hb, hte.run_size, Addr.add_lit]
          · rw [beq_dec]
            by_cases hcl : c' = l
            · rw [if_pos hcl]
              simp only [hcl, decide_true, cond_true]
              exact .slice _ _ _ _ _ p hp (by show h - l ≤ l - l; omega) (by show l - l ≤ _; omega) (.inr (Nat.sub_self l))
            · rw [if_neg hcl]
              simp only [hcl, decide_false, cond_false]
              exact .slice _ _ _ _ _ p hp (by show h - l ≤ c' - l; omega) (by show c' - l ≤ _; omega) (.inl (by
                show _ = p.sh + (o + l * te.size)
                rcases ho with ho | ho <;> omega))
  · -- an array
    rename_i b o
    split
    · rename_i n e hk
      refine (tyK_ok hΓ e _).bind fun te hte => (bndK_ok m mx n _).bind fun c' hcm => (bndK_ok m hi n _).bind fun h hh => (bndK_ok m lo 0 _).bind fun l hl => ?_
      cases hc : two (two (two (Nat.ble l h) (Nat.ble h c')) (Nat.ble c' n)) (Nat.ble n 1000000000000) with
      | false => exact .inl rfl
      | true =>
        obtain ⟨c1, c4⟩ := two_t hc
        obtain ⟨c1, c3⟩ := two_t c1
        obtain ⟨c1, c2⟩ := two_t c1
        have c1 := Nat.le_of_ble_eq_true c1
        have c2 := Nat.le_of_ble_eq_true c2
        have c3 := Nat.le_of_ble_eq_true c3
        have c4 := Nat.le_of_ble_eq_true c4
        have hml : n ≤ maxLen := Nat.le_trans c4 (by decide)
        rw [strA_eq]
        refine .inr ⟨_, fun ρ n' act he w d ty pos aft g => ?_, rfl⟩
        have hx := ha ρ n' act he
        generalize hv : act.eval x = v at hx
        cases hx with
        | ptr _ _ p hp =>
          have hb := run_bnds (P := P) false (hl ρ n' act he) (hh ρ n' act he) (hcm ρ n' act he) (hno' act) c1 c2 c3 w
          refine ⟨.slice (some (if c' = l then ⟨p.blk, p.sh + o, none⟩ else ⟨p.blk, p.sh + o + l * te.size, none⟩)) (h - l) (c' - l), ?_, .at _ _ ?_⟩
          · simp [execOp, hv, Instr.sliceAt, Instr.sureAddr, underlying, hti.ar hk, hb, hte.run_size, Addr.add_lit]
          · rw [beq_dec]
            by_cases hcl : c' = l
            · rw [if_pos hcl]
              simp only [hcl, decide_true, cond_true]
              exact .slice _ _ _ _ _ p hp (by show h - l ≤ l - l; omega) (by show l - l ≤ _; omega) (.inr (Nat.sub_self l))
            · rw [if_neg hcl]
              simp only [hcl, decide_false, cond_false]
              exact .slice _ _ _ _ _ p hp (by show h - l ≤ c' - l; omega) (by show c' - l ≤ _; omega) (.inl (by show _ = p.sh + (o + l * te.size); omega))
    · exact .inl rfl
  · exact .inl rfl
end
end Go.E
