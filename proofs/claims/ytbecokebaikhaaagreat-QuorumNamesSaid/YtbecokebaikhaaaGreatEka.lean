/-
  E: two structs, two arrays: are they the same?
-/
import Derived.Test.YtbecokebaikhaaaGreatEk
namespace Go.E
open Go Go.RowKit Go.V
set_option linter.unusedVariables false
set_option linter.unusedSimpArgs false
theorem rope_bytes {ρ : Plc} {r : Rope} {cs : List Value} (hr : RR ρ r cs) : ∀ {n s : Nat}, r.bytes = some (n, s) → cs = bcells n s ∧ s < 256 ^ n := by
  induction hr with
  | bys n s h => intro n' s' hb; simp only [Rope.bytes, Option.some.injEq, Prod.mk.injEq] at hb; obtain ⟨rfl, rfl⟩ := hb; exact ⟨rfl, h⟩
  | rps n a cs hl h =>
    intro n' s' hb
    have hb2 : ∃ s, a = .int .u8 s ∧ (bif Nat.beq n 1 then some (1, s) else none) = some (n', s') := by
      cases a with
      | int kd s => cases kd <;> first | exact ⟨s, rfl, hb⟩ | cases hb
      | _ => cases hb
    clear hb
    obtain ⟨s, rfl, hb⟩ := hb2
    cases h1 : Nat.beq n 1 with
    | false => rw [h1] at hb; cases hb
    | true =>
      rw [h1, cond_true] at hb
      cases hb
      have h1 := Nat.eq_of_beq_eq_true h1
      subst h1
      match cs, hl with
      | [v], _ =>
        have := h v (by simp)
        cases this with
        | int _ _ hn =>
          have hn : s' < 256 := hn
          refine ⟨?_, by simpa using hn⟩
          have e2 : byteAt s' 0 = s' := by simp [byteAt, Nat.mod_eq_of_lt hn]
          rw [u8_wrap hn]
          show _ = [Value.int .u8 ((byteAt s' 0 : Nat) : Int)]
          rw [e2]
  | nds n l r xs ys _ _ hn ih1 ih2 =>
    intro n' s' hb
    simp only [Rope.bytes] at hb
    split at hb
    · rename_i n1 s1 m1 t1 h1 h2
      cases hb
      obtain ⟨e1, l1⟩ := ih1 h1
      obtain ⟨e2, l2⟩ := ih2 h2
      subst e1 e2
      rw [sh8_eq]
      exact ⟨(bcells_app l1).symm, app_lt l1 l2⟩
    · cases hb
section
variable {R : Type} {bad : R} {P : Program}
theorem leafT_ok (d : Nat) {ρ : Plc} {t : TypeId} {tk : TK} {u : TypeDesc} (hu : P.underlying t = some u) (hd : descK tk u = true) (hz : ∀ e, tk = .pt e → ∃ te, TyOk P e te ∧ 0 < te.size) {a b : A} {r : Bool} (h : leafT tk a b = some r) {x y : Value} (hx : AR ρ a x) (hy : AR ρ b y) (w : World) :
    (Op.equalIn (d + 1) t x y).run P w = .ok r w := by
  unfold leafT at h
  split at h
  · rename_i kt k a k' b
    cases hk : kEq k k' with
    | false => rw [hk] at h; cases h
    | true =>
      rw [hk, cond_true] at h
      cases h
      have hk := kn_inj hk
      subst hk
      cases u <;> simp only [descK] at hd <;> first | (cases hd; done) | skip
      cases hx with
      | int _ _ h1 => cases hy with
        | int _ _ h2 =>
          rw [Op.equalIn]
          have e : (k.wrap (a : Int) == k.wrap (b : Int)) = Nat.beq a b := by
            rw [beq_dec, Bool.eq_iff_iff]
            simp only [beq_iff_eq, decide_eq_true_eq]
            exact ⟨wrap_inj h1 h2, fun h => by rw [h]⟩
          simp [underlying, hu, e]
  · rename_i n s m p
    cases h
    cases u <;> simp only [descK] at hd <;> first | (cases hd; done) | skip
    cases hx with
    | str x _ _ h1 h2 => cases hy with
      | str y _ _ h3 h4 =>
        rw [Op.equalIn]
        have e : (x == y) = two (Nat.beq n m) (Nat.beq s p) := by
          have h5 := packB_eq (a := x.data.toList) (b := y.data.toList)
          rw [h2, h4] at h5
          have l1 : x.data.toList.length = n := by rw [← h1]; simp
          have l2 : y.data.toList.length = m := by rw [← h3]; simp
          rw [l1, l2] at h5
          have e0 : (x == y) = (x.data == y.data) := by cases x; cases y; rfl
          rw [← h5, e0, Bool.eq_iff_iff]
          simp only [beq_iff_eq]
          exact ⟨fun h => by rw [h], fun h => Array.ext' h⟩
        simp [underlying, hu, e]
  · exact eqT_at d hu hd hz h hx hy w
  · exact eqT_at d hu hd hz h hx hy w
  · cases h
/-- What is known of a comparison in depth. -/
def EqOk (P : Program) (d : Nat) (t : TypeId) (x y : V) (b : Bool) : Prop := ∀ ρ u v, VR ρ x u → VR ρ y v → ∀ w, (Op.equalIn d t u v).run P w = .ok b w
/-- Two parts, one after the other. -/
theorem part2 {t : TypeId} {ti : TI} (hT : TyOk P t ti) (m : Bool) {r s : Rope} {o : Nat} {k : V → V → R} {Q : V → V → Prop}
    (h : ∀ v w, (∀ ρ xs ys, RR ρ r xs → RR ρ s ys → ∃ u u', VR ρ v u ∧ VR ρ w u' ∧ ∀ W, (part t xs.toArray o).run P W = .ok u W ∧ (part t ys.toArray o).run P W = .ok u' W) → Q v w) (e : R) {j : Bool → R} {S : Bool → Prop}
    (he : ∀ v w, Q v w → Ok1 bad (k v w) j S) : Ok1 bad (partK bad m ti r o fun v => partK bad m ti s o fun w => k v w) j S := by
  refine (partK_ok m hT r o _).bind fun v hv => (partK_ok m hT s o _).bind fun w hw => he v w (h v w fun ρ xs ys hx hy => ?_)
  rcases hv ρ xs hx with ⟨h1, h2, h3⟩ | ⟨h1, u, h2, h3⟩
  · rcases hw ρ ys hy with ⟨_, h5, h6⟩ | ⟨h4, _⟩
    · exact ⟨_, _, h3, h6, fun W => ⟨run_part hT W (.inl ⟨h1, rfl⟩), run_part hT W (.inl ⟨h1, rfl⟩)⟩⟩
    · rw [h1] at h4; cases h4
  · rcases hw ρ ys hy with ⟨h4, _⟩ | ⟨_, u', h5, h6⟩
    · rw [h1] at h4; cases h4
    · exact ⟨_, _, h3, h6, fun W => ⟨run_part hT W (.inr ⟨h1, h2⟩), run_part hT W (.inr ⟨h1, h5⟩)⟩⟩
theorem eqFs_ok {Γ : Ctx} (hΓ : ∀ t ti, Γ.ty.get t = some ti → TyOk P t ti) (m : Bool) (d : Nat) {rc : TypeId → V → V → (Bool → R) → R} (hrc : ∀ t x y k, Ok1 bad (rc t x y k) k (EqOk P d t x y)) (r s : Rope) : ∀ (Fl : List Field) (fs : List (Nat × Nat)) (k : Bool → R), Fl.map (fun f => (f.offset, f.type)) = fs → (∀ f ∈ Fl, f.name ≠ "_") →
    Ok1 bad (eqFsK bad Γ m rc r s fs k) k fun b => ∀ ρ xs ys, RR ρ r xs → RR ρ s ys → ∀ w, (do
      for f in Fl do
        if f.name ≠ "_" then
          if !(← Op.equalIn d f.type (← part f.type xs.toArray f.offset) (← part f.type ys.toArray f.offset)) then return false
      pure true : Sem Bool).run P w = .ok b w
  | [], fs, k, hf, hn => by
    subst hf
    exact .inr ⟨_, fun ρ xs ys _ _ w => by simp, rfl⟩
  | F :: Fl, fs, k, hf, hn => by
    subst hf
    show Ok1 bad (tyK bad Γ F.type fun ti => partK bad m ti r F.offset fun v => partK bad m ti s F.offset fun w => rc F.type v w fun b => bif b then eqFsK bad Γ m rc r s (Fl.map fun f => (f.offset, f.type)) k else k false) k _
    refine (tyK_ok hΓ F.type _).bind fun ti hti => part2 hti m (fun v w h => h) bad fun v w hvw => (hrc F.type v w _).bind fun b hb => ?_
    have hname : F.name ≠ "_" := hn F (by simp)
    cases b with
    | false =>
      refine .inr ⟨_, fun ρ xs ys hx hy w => ?_, rfl⟩
      obtain ⟨u, u', h1, h2, h3⟩ := hvw ρ xs ys hx hy
      have h4 := hb ρ u u' h1 h2
      simp [hname, (h3 _).1, (h3 _).2, h4]
    | true =>
      refine (eqFs_ok hΓ m d hrc r s Fl _ k rfl fun f hf => hn f (by simp [hf])).mono fun b hB ρ xs ys hx hy w => ?_
      obtain ⟨u, u', h1, h2, h3⟩ := hvw ρ xs ys hx hy
      have h4 := hb ρ u u' h1 h2
      have h5 := hB ρ xs ys hx hy w
      simp only [ne_eq] at h5
      simp [hname, (h3 _).1, (h3 _).2, h4]
      simpa using h5
theorem eqAr_ok {e : TypeId} {te : TI} (hte : TyOk P e te) (m : Bool) (d : Nat) {rc : TypeId → V → V → (Bool → R) → R} (hrc : ∀ t x y k, Ok1 bad (rc t x y k) k (EqOk P d t x y)) (r s : Rope) : ∀ (n i : Nat) (k : Bool → R),
    Ok1 bad (eqArK bad m rc r s e te n i k) k fun b => ∀ ρ xs ys, RR ρ r xs → RR ρ s ys → ∀ w, (do
      for j in List.range' i n do
        if !(← Op.equalIn d e (← part e xs.toArray (j * te.size)) (← part e ys.toArray (j * te.size))) then return false
      pure true : Sem Bool).run P w = .ok b w
  | 0, i, k => .inr ⟨_, fun ρ xs ys _ _ w => by simp, rfl⟩
  | n + 1, i, k => by
    show Ok1 bad (partK bad m te r (Nat.mul i te.size) fun v => partK bad m te s (Nat.mul i te.size) fun w => rc e v w fun b => bif b then eqArK bad m rc r s e te n (Nat.succ i) k else k false) k _
    refine part2 hte m (fun v w h => h) bad fun v w hvw => (hrc e v w _).bind fun b hb => ?_
    cases b with
    | false =>
      refine .inr ⟨_, fun ρ xs ys hx hy w => ?_, rfl⟩
      obtain ⟨u, u', h1, h2, h3⟩ := hvw ρ xs ys hx hy
      have h4 := hb ρ u u' h1 h2
      have h5 := fun W => (h3 W).1
      have h6 := fun W => (h3 W).2
      rw [show Nat.mul i te.size = i * te.size from rfl] at h5 h6
      simp [List.range'_succ, h5, h6, h4]
    | true =>
      refine (eqAr_ok hte m d hrc r s n (Nat.succ i) k).mono fun b hB ρ xs ys hx hy w => ?_
      obtain ⟨u, u', h1, h2, h3⟩ := hvw ρ xs ys hx hy
      have h4 := hb ρ u u' h1 h2
      have h5 := fun W => (h3 W).1
      have h6 := fun W => (h3 W).2
      rw [show Nat.mul i te.size = i * te.size from rfl] at h5 h6
      have h7 := hB ρ xs ys hx hy w
      simp [List.range'_succ, h5, h6, h4]
      simpa using h7
/-- Bytes in a row. -/
theorem byte_inj : ∀ {c p q : Nat}, p < 256 ^ c → q < 256 ^ c → (∀ i, i < c → byteAt p i = byteAt q i) → p = q
  | 0, p, q, hp, hq, h => by simp at hp hq; omega
  | c + 1, p, q, hp, hq, h => by
    rw [Nat.pow_succ] at hp hq
    have h0 := h 0 (by omega)
    have h1 : p / 256 = q / 256 := byte_inj (c := c) (by omega) (by omega) fun i hi => by
      have := h (i + 1) (by omega)
      unfold byteAt at this ⊢
      rwa [Nat.pow_succ, Nat.mul_comm, ← Nat.div_div_eq_div_mul, ← Nat.div_div_eq_div_mul] at this
    unfold byteAt at h0
    simp at h0
    omega
theorem bytesEq_ok {e : TypeId} {te : TI} (hte : TyOk P e te) {kd : IntKind} (hk : te.k = .int kd) (d : Nat) {n : Nat} {r s : Rope} {b : Bool} (h : bytesEq n r s = some b) {ρ : Plc} {xs ys : List Value} (hx : RR ρ r xs) (hy : RR ρ s ys) (w : World) : (do
      for j in List.range' 0 n do
        if !(← Op.equalIn (d + 1) e (← part e xs.toArray (j * te.size)) (← part e ys.toArray (j * te.size))) then return false
      pure true : Sem Bool).run P w = .ok b w := by
  classical
  unfold bytesEq at h
  split at h
  · rename_i a p c q h1 h2
    obtain ⟨rfl, l1⟩ := rope_bytes hx h1
    obtain ⟨rfl, l2⟩ := rope_bytes hy h2
    cases hc : two (Nat.beq a n) (Nat.beq c n) with
    | false => rw [hc] at h; cases h
    | true =>
      rw [hc, cond_true] at h
      cases h
      have ha : a = n ∧ c = n := by
        cases h3 : Nat.beq a n with
        | false => rw [h3] at hc; cases hc
        | true => rw [h3] at hc; exact ⟨Nat.eq_of_beq_eq_true h3, Nat.eq_of_beq_eq_true hc⟩
      obtain ⟨rfl, rfl⟩ := ha
      have hagg : te.agg = false := by rw [← hte.agg, hk]; rfl
      have hs1 := hte.one hagg
      obtain ⟨u, hu, hd⟩ := hte.u
      rw [hk] at hd
      have hall : Nat.beq p q = ((List.range' 0 c).all fun i => decide (byteAt p i = byteAt q i)) := by
        rw [Bool.eq_iff_iff]
        simp only [List.all_eq_true, List.mem_range', decide_eq_true_eq]
        constructor
        · intro h i _; rw [Nat.eq_of_beq_eq_true h]
        · intro h
          have : p = q := byte_inj l1 l2 fun i hi => h i (by simpa using hi)
          rw [this]; exact Nat.beq_refl q
      rw [hall]
      have hlr : ∀ i ∈ List.range' 0 c 1, i < c := fun i hi => by simpa using (List.mem_range'_1.1 hi).2
      generalize List.range' 0 c 1 = l at hlr ⊢
      induction l with
      | nil => simp
      | cons i l ih =>
        have hi : i < c := hlr i (by simp)
        have px : (part e (bcells c p).toArray (i * te.size)).run P w = .ok (.int .u8 (byteAt p i : Nat)) w := by
          refine run_part hte w (.inr ⟨hagg, ?_⟩)
          rw [hs1, Nat.mul_one]; exact bcells_get hi
        have py : (part e (bcells c q).toArray (i * te.size)).run P w = .ok (.int .u8 (byteAt q i : Nat)) w := by
          refine run_part hte w (.inr ⟨hagg, ?_⟩)
          rw [hs1, Nat.mul_one]; exact bcells_get hi
        have pe : (Op.equalIn (d + 1) e (.int .u8 (byteAt p i : Nat)) (.int .u8 (byteAt q i : Nat))).run P w = .ok (decide (byteAt p i = byteAt q i)) w := by
          cases u <;> simp only [descK] at hd <;> first | (cases hd; done) | skip
          rw [Op.equalIn]
          have e : (((byteAt p i : Nat) : Int) == ((byteAt q i : Nat) : Int)) = decide (byteAt p i = byteAt q i) := by
            rw [Bool.eq_iff_iff]; simp only [beq_iff_eq, decide_eq_true_eq]; omega
          simp [underlying, hu, e]
        have ih := ih fun j hj => hlr j (by simp [hj])
        simp only [List.forIn_cons, Sem.run_bind, px, py, pe, Result.andThen_ok, List.all_cons] at ih ⊢
        cases hb : (decide (byteAt p i = byteAt q i))
        · simp
        · simpa using ih
  · cases h
theorem eqV_ok {Γ : Ctx} (hΓ : ∀ t ti, Γ.ty.get t = some ti → TyOk P t ti) (m : Bool) : ∀ (f d : Nat), f < d → ∀ t x y (k : Bool → R), Ok1 bad (eqV bad Γ m f t x y k) k (EqOk P d t x y)
  | 0, d, hf, t, x, y, k => .inl rfl
  | f + 1, d, hf, t, x, y, k => by
    obtain ⟨d, rfl⟩ : ∃ d', d = d' + 1 := ⟨d - 1, by omega⟩
    have ih := eqV_ok hΓ m f d (by omega)
    unfold eqV
    refine (tyK_ok hΓ t _).bind fun ti hti => ?_
    obtain ⟨u, hu, hd⟩ := hti.u
    split
    · rename_i a
      refine (atK_ok y _).bind fun b hb => ?_
      subst hb
      have body : (∀ e, ti.k = .pt e → ∃ te, TyOk P e te ∧ 0 < te.size) → Ok1 bad (match leafT ti.k a b with | some r => k r | none => bad) k (EqOk P (d + 1) t (.at a) (.at b)) := by
        intro hz
        split
        · rename_i r hr
          exact .inr ⟨_, fun ρ u v hu' hv' w => leafT_ok d hu hd hz hr hu'.atom hv'.atom w, rfl⟩
        · exact .inl rfl
      unfold sizedK
      split
      · rename_i e he
        refine (tyK_ok hΓ e _).bind fun te hte => ?_
        cases hs : Nat.blt 0 te.size with
        | false => exact .inl rfl
        | true => exact body fun e' he' => ⟨te, by rw [he] at he'; cases he'; exact hte, blt_t hs⟩
      · rename_i hne
        exact body fun e he => absurd he (hne e)
    · rename_i r
      split
      · rename_i s
        split
        · rename_i fs hfs
          cases hfl : ti.flat with
          | false => exact .inl rfl
          | true =>
            rw [okK, cond_true]
            rw [hfs] at hd
            obtain ⟨⟨_, hst⟩, hnm⟩ := hti.flat hfl
            cases u <;> simp only [descK] at hd <;> first | (cases hd; done) | skip
            rename_i F
            refine (eqFs_ok hΓ m d ih r s F.toList fs k (by simpa using hd) (hnm F hu)).mono fun b hb ρ u v hu' hv' w => ?_
            cases hu' with
            | agg _ xs hx => cases hv' with
              | agg _ ys hy =>
                have h1 := hb ρ xs ys hx hy w
                rw [Op.equalIn]
                have hr : (underlying t).run P w = .ok (.struct F) w := by simp [underlying, hu]
                rw [Sem.run_bind, hr]
                simp only [ne_eq] at h1
                simp [hst]
                simpa using h1
        · rename_i n e hne
          refine (tyK_ok hΓ e _).bind fun te hte => ?_
          rw [hne] at hd
          cases u <;> simp only [descK, Bool.and_eq_true] at hd <;> first | (cases hd; done) | skip
          rename_i n' e'
          obtain ⟨hd1, hd2⟩ := hd
          have hd1 := Nat.eq_of_beq_eq_true hd1
          have hd2 := Nat.eq_of_beq_eq_true hd2
          subst hd1 hd2
          have fin : ∀ b ρ u v, VR ρ (.agg r) u → VR ρ (.agg s) v → (∀ xs ys, RR ρ r xs → RR ρ s ys → ∀ w, (do
              for j in List.range' 0 n do
                if !(← Op.equalIn d e (← part e xs.toArray (j * te.size)) (← part e ys.toArray (j * te.size))) then return false
              pure true : Sem Bool).run P w = .ok b w) → ∀ w, (Op.equalIn (d + 1) t u v).run P w = .ok b w := by
            intro b ρ u v hu' hv' hb w
            cases hu' with
            | agg _ xs hx => cases hv' with
              | agg _ ys hy =>
                have h1 := hb xs ys hx hy w
                rw [Op.equalIn]
                have hr : (underlying t).run P w = .ok (.array n e) w := by simp [underlying, hu]
                rw [Sem.run_bind, hr]
                simp [hte.run_size, Std.Legacy.Range.forIn_eq_forIn_range', Std.Legacy.Range.size]
                simpa using h1
          split
          · rename_i b hb
            cases hi : isIntK te.k with
            | false => rw [hi] at hb; cases hb
            | true =>
              rw [hi, cond_true] at hb
              cases hte' : te.k with
              | int kd =>
                cases d with
                | zero => omega
                | succ d => exact .inr ⟨b, fun ρ u v hu' hv' => fin b ρ u v hu' hv' fun xs ys hx hy w => bytesEq_ok hte hte' d hb hx hy w, rfl⟩
              | _ => rw [hte'] at hi; cases hi
          · exact (eqAr_ok hte m d ih r s n 0 k).mono fun b hb ρ u v hu' hv' => fin b ρ u v hu' hv' fun xs ys hx hy w => hb ρ xs ys hx hy w
        · exact .inl rfl
      · exact .inl rfl
    · exact .inl rfl
theorem guard_agg {op : BinOp} {t : TypeId} (hg : P.eqGuardType P.depth t = false) (x y : Operand) (a b : Array Value) (w : World) : (eqGuard op t x y (.agg a) (.agg b)).run P w = .ok () w := by
  unfold eqGuard
  split <;> simp [hg]
theorem binV_ok {Γ : Ctx} (hΓ : ∀ t ti, Γ.ty.get t = some ti → TyOk P t ti) (m : Bool) (op : BinOp) (t : TypeId) (x y : V) (k : V → R) : Ok1 bad (binV bad Γ m op t x y k) k fun r => BinOk P op t x y r := by
  unfold binV
  split
  · refine (atK_ok y _).bind fun b hb => ?_
    subst hb
    exact binA_ok hΓ m op t _ _ k
  · rename_i r
    split
    · rename_i s
      refine (tyK_ok hΓ t _).bind fun ti hti => ?_
      cases hfl : ti.flat with
      | false => exact .inl rfl
      | true =>
        rw [okK, cond_true]
        have hg := (hti.flat hfl).1.1
        split
        · refine (eqV_ok hΓ m 100 10000 (by decide) t (.agg r) (.agg s) _).bind fun b hb => ?_
          rw [boolK_eq]
          refine .inr ⟨_, fun ρ u v hu hv p q w => ⟨.bool b, ?_, .at _ _ (.bool _)⟩, rfl⟩
          have h1 := hb ρ u v hu hv w
          cases hu with
          | agg _ xs hx => cases hv with
            | agg _ ys hy =>
              have h1 : (Op.equal t (.agg xs.toArray) (.agg ys.toArray)).run P w = .ok b w := h1
              simp only [Sem.run_bind, guard_agg hg, Result.andThen_ok, binOp, h1, Sem.run_pure]
        · refine (eqV_ok hΓ m 100 10000 (by decide) t (.agg r) (.agg s) _).bind fun b hb => ?_
          rw [boolK_eq]
          refine .inr ⟨_, fun ρ u v hu hv p q w => ⟨.bool (!b), ?_, .at _ _ (.bool _)⟩, rfl⟩
          have h1 := hb ρ u v hu hv w
          cases hu with
          | agg _ xs hx => cases hv with
            | agg _ ys hy =>
              have h1 : (Op.equal t (.agg xs.toArray) (.agg ys.toArray)).run P w = .ok b w := h1
              simp only [Sem.run_bind, guard_agg hg, Result.andThen_ok, binOp, h1, Sem.run_pure]
        · exact .inl rfl
    · exact .inl rfl
  · exact .inl rfl
end
end Go.E
