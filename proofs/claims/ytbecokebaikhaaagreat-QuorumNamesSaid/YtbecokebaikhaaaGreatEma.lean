/-
  E: maps.
-/
import Derived.Test.YtbecokebaikhaaaGreatEm
namespace Go.E
open Go Go.RowKit Go.V
set_option linter.unusedVariables false
set_option linter.unusedSimpArgs false
section
variable {R : Type} {bad : R} {P : Program} {fl fd : Nat} {env : En} {h : H} {nx : Nat} {o : Op} {k : V → H → Nat → R}
def ChkOk (P : Program) (d : Nat) (t : TypeId) (x : V) : Prop := ∀ ρ u, VR ρ x u → ∀ b w, (Instr.checkKey b d t u).run P w = .ok () w
theorem und_run {t : TypeId} {u : TypeDesc} (hu : P.underlying t = some u) (w : World) : (underlying t).run P w = .ok u w := by simp [underlying, hu]
theorem part1 {t : TypeId} {ti : TI} (hT : TyOk P t ti) (m : Bool) {r : Rope} {o : Nat} {k : V → R} {S : R → Prop} 
    (h : ∀ v, (∀ ρ xs, RR ρ r xs → ∃ u, VR ρ v u ∧ ∀ W, (part t xs.toArray o).run P W = .ok u W) → Out bad (k v) S) : Out bad (partK bad m ti r o k) S := by
  refine (partK_ok m hT r o _).out fun v hv => h v fun ρ xs hx => ?_
  rcases hv ρ xs hx with ⟨h1, h2, h3⟩ | ⟨h1, u, h2, h3⟩
  · exact ⟨_, h3, fun W => run_part hT W (.inl ⟨h1, rfl⟩)⟩
  · exact ⟨_, h3, fun W => run_part hT W (.inr ⟨h1, h2⟩)⟩
theorem chkFs_ok {Γ : Ctx} (hΓ : ∀ t ti, Γ.ty.get t = some ti → TyOk P t ti) (m : Bool) (d : Nat) {rc : TypeId → V → R → R} (hrc : ∀ t x (k : R), Out bad (rc t x k) fun e => ChkOk P d t x ∧ e = k) (r : Rope) : ∀ (Fl : List Field) (fs : List (Nat × Nat)) (k : R), Fl.map (fun f => (f.offset, f.type)) = fs → (∀ f ∈ Fl, f.name ≠ "_") →
    Out bad (chkFs bad Γ m rc r fs k) fun e => (∀ ρ xs, RR ρ r xs → ∀ b w, (do
      for f in Fl do
        if f.name ≠ "_" then Instr.checkKey b d f.type (← part f.type xs.toArray f.offset) : Sem Unit).run P w = .ok () w) ∧ e = k
  | [], fs, k, hf, hn => by
    subst hf
    exact .inr ⟨fun ρ xs _ b w => by simp, rfl⟩
  | F :: Fl, fs, k, hf, hn => by
    subst hf
    show Out bad (tyK bad Γ F.type fun ti => partK bad m ti r F.offset fun v => rc F.type v (chkFs bad Γ m rc r (Fl.map fun f => (f.offset, f.type)) k)) _
    refine (tyK_ok hΓ F.type _).out fun ti hti => part1 hti m fun v hv => ?_
    rcases hrc F.type v (chkFs bad Γ m rc r (Fl.map fun f => (f.offset, f.type)) k) with e | ⟨hb, e⟩
    · exact .inl e
    · rw [e]
      rcases chkFs_ok hΓ m d hrc r Fl _ k rfl fun f hf => hn f (by simp [hf]) with e | ⟨hB, e⟩
      · exact .inl e
      · rw [e]
        refine .inr ⟨fun ρ xs hx b w => ?_, rfl⟩
        obtain ⟨u, h1, h3⟩ := hv ρ xs hx
        have h4 := hb ρ u h1 b
        have h5 := hB ρ xs hx b w
        have hname : F.name ≠ "_" := hn F (by simp)
        simp only [ne_eq] at h5
        simp [hname, h3, h4]
        simpa using h5
theorem chkAr_ok {e : TypeId} {te : TI} (hte : TyOk P e te) (m : Bool) (d : Nat) {rc : TypeId → V → R → R} (hrc : ∀ t x (k : R), Out bad (rc t x k) fun e => ChkOk P d t x ∧ e = k) (r : Rope) : ∀ (n i : Nat) (k : R),
    Out bad (chkAr bad m rc r e te n i k) fun e' => (∀ ρ xs, RR ρ r xs → ∀ b w, (do
      for j in List.range' i n do Instr.checkKey b d e (← part e xs.toArray (j * (← sizeOf e))) : Sem Unit).run P w = .ok () w) ∧ e' = k
  | 0, i, k => .inr ⟨fun ρ xs _ b w => by simp, rfl⟩
  | n + 1, i, k => by
    show Out bad (partK bad m te r (Nat.mul i te.size) fun v => rc e v (chkAr bad m rc r e te n (Nat.succ i) k)) _
    refine part1 hte m fun v hv => ?_
    rcases hrc e v (chkAr bad m rc r e te n (Nat.succ i) k) with e1 | ⟨hb, e1⟩
    · exact .inl e1
    · rw [e1]
      rcases chkAr_ok hte m d hrc r n (Nat.succ i) k with e2 | ⟨hB, e2⟩
      · exact .inl e2
      · rw [e2]
        refine .inr ⟨fun ρ xs hx b w => ?_, rfl⟩
        obtain ⟨u, h1, h3⟩ := hv ρ xs hx
        rw [show Nat.mul i te.size = i * te.size from rfl] at h3
        have h4 := hb ρ u h1 b
        have h5 := hB ρ xs hx b w
        simp [List.range'_succ, hte.run_size, h3, h4]
        simpa using h5
theorem chkV_ok {Γ : Ctx} (hΓ : ∀ t ti, Γ.ty.get t = some ti → TyOk P t ti) (m : Bool) : ∀ (f d : Nat), f < d → ∀ t x (k : R), Out bad (chkV bad Γ m f t x k) fun e => ChkOk P d t x ∧ e = k
  | 0, d, hf, t, x, k => .inl rfl
  | f + 1, d, hf, t, x, k => by
    obtain ⟨d, rfl⟩ : ∃ d', d = d' + 1 := ⟨d - 1, by omega⟩
    have ih := chkV_ok hΓ m f d (by omega)
    unfold chkV
    refine (tyK_ok hΓ t _).out fun ti hti => ?_
    obtain ⟨u, hu, hd⟩ := hti.u
    split
    · rename_i a
      refine out_if fun ha => .inr ⟨fun ρ x hx b w => ?_, rfl⟩
      rw [Instr.checkKey]
      unfold atomK at ha
      split at ha <;> first | (cases ha; done) | skip
      all_goals
        rename_i hk
        rw [hk] at hd
        cases u <;> simp only [descK] at hd <;> first | (cases hd; done) | skip
        rw [Sem.run_bind, und_run hu]
        rfl
    · rename_i r
      split
      · rename_i fs hfs
        refine out_if fun hfl => ?_
        rw [hfs] at hd
        obtain ⟨_, hnm⟩ := hti.flat hfl
        cases u <;> simp only [descK] at hd <;> first | (cases hd; done) | skip
        rename_i F
        rcases chkFs_ok hΓ m d ih r F.toList fs k (by simpa using hd) (hnm F hu) with e | ⟨hb, e⟩
        · exact .inl e
        · rw [e]
          refine .inr ⟨fun ρ x hx b w => ?_, rfl⟩
          cases hx with
          | agg _ xs hx =>
            have h1 := hb ρ xs hx b w
            rw [Instr.checkKey]
            have hr : (underlying t).run P w = .ok (.struct F) w := by simp [underlying, hu]
            rw [Sem.run_bind, hr]
            simp only [ne_eq] at h1
            simpa using h1
      · rename_i n e hne
        refine (tyK_ok hΓ e _).out fun te hte => ?_
        rw [hne] at hd
        cases u <;> simp only [descK, Bool.and_eq_true] at hd <;> first | (cases hd; done) | skip
        rename_i n' e'
        obtain ⟨hd1, hd2⟩ := hd
        have hd1 := Nat.eq_of_beq_eq_true hd1
        have hd2 := Nat.eq_of_beq_eq_true hd2
        subst hd1 hd2
        have fin : ∀ ρ u, VR ρ (.agg r) u → (∀ xs, RR ρ r xs → ∀ b w, (do
            for j in List.range' 0 n do Instr.checkKey b d e (← part e xs.toArray (j * (← sizeOf e))) : Sem Unit).run P w = .ok () w) → ∀ b w, (Instr.checkKey b (d + 1) t u).run P w = .ok () w := by
          intro ρ u hu' hb b w
          cases hu' with
          | agg _ xs hx =>
            have h1 := hb xs hx b w
            rw [Instr.checkKey]
            have hr : (underlying t).run P w = .ok (.array n e) w := by simp [underlying, hu]
            rw [Sem.run_bind, hr]
            simp [Std.Legacy.Range.forIn_eq_forIn_range', Std.Legacy.Range.size]
            simpa using h1
        cases hi : isIntK te.k with
        | false =>
          rw [cond_false]
          rcases chkAr_ok hte m d ih r n 0 k with e1 | ⟨hb, e1⟩
          · exact .inl e1
          · rw [e1]; exact .inr ⟨fun ρ u hu' => fin ρ u hu' fun xs hx b w => hb ρ xs hx b w, rfl⟩
        | true =>
          rw [cond_true]
          refine out_if fun hl => .inr ⟨fun ρ u hu' => fin ρ u hu' fun xs hx b w => ?_, rfl⟩
          have hl := Nat.eq_of_beq_eq_true hl
          have hlen := hx.len
          rw [hl] at hlen
          cases hte' : te.k with
          | int kd =>
            have hagg : te.agg = false := by rw [← hte.agg, hte']; rfl
            have hs1 := hte.one hagg
            obtain ⟨u', hu2, hd2⟩ := hte.u
            rw [hte'] at hd2
            cases d with
            | zero => omega
            | succ d =>
              have hlr : ∀ i ∈ List.range' 0 n 1, i < n := fun i hi => by simpa using (List.mem_range'_1.1 hi).2
              generalize List.range' 0 n 1 = l at hlr ⊢
              induction l with
              | nil => simp
              | cons i l ihl =>
                have hi : i < xs.length := by rw [← hlen]; exact hlr i (by simp)
                have px : (part e xs.toArray (i * te.size)).run P w = .ok xs[i] w := by
                  refine run_part hte w (.inr ⟨hagg, ?_⟩)
                  rw [hs1, Nat.mul_one]; exact List.getElem?_eq_getElem hi
                have pe : (Instr.checkKey b (d + 1) e xs[i]).run P w = .ok () w := by
                  cases u' <;> simp only [descK] at hd2 <;> first | (cases hd2; done) | skip
                  rw [Instr.checkKey]
                  rw [Sem.run_bind, und_run hu2]
                  rfl
                have ihl := ihl fun j hj => hlr j (by simp [hj])
                simp only [List.forIn_cons, Sem.run_bind, hte.run_size, px, pe, Result.andThen_ok] at ihl ⊢
                simpa using ihl
          | _ => rw [hte'] at hi; cases hi
      · exact .inl rfl
    · exact .inl rfl
/-! Finding. -/
theorem run_sameNow {kind : TypeDesc} {t : TypeId} (hu : P.underlying t = some kind) {x y : Value} {b : Bool} (h : Instr.sameNow kind x y = some b) (w : World) : (Op.equal t x y).run P w = .ok b w := by
  unfold Instr.sameNow at h
  split at h
  · rename_i kt k a k' c
    split at h
    · rename_i hk
      subst hk
      cases h
      show (Op.equalIn (9999 + 1) t _ _).run P w = _
      rw [Op.equalIn]
      simp [underlying, hu]
    · cases h
  · cases h
    show (Op.equalIn (9999 + 1) t _ _).run P w = _
    rw [Op.equalIn]
    simp [underlying, hu]
  · cases h
    show (Op.equalIn (9999 + 1) t _ _).run P w = _
    rw [Op.equalIn]
    simp [underlying, hu]
  · cases h
theorem run_findNow {kind : TypeDesc} {t : TypeId} (hu : P.underlying t = some kind) (x : Value) (w : World) : ∀ (L : List MapEntry) (i : Nat) (r : Option (Nat × Value)), Instr.findNow kind x L i = some r → (Instr.findAsking t x L i).run P w = .ok r w
  | [], i, r, h => by cases h; rfl
  | e :: L, i, r, h => by
    unfold Instr.findNow at h
    split at h
    · rename_i hs
      cases h
      simp [Instr.findAsking, run_sameNow hu hs w]
    · rename_i hs
      simp [Instr.findAsking, run_sameNow hu hs w, run_findNow hu x w L (i + 1) r h]
    · cases h
theorem run_findKey {t : TypeId} {x : Value} {L : List MapEntry} {r : Option (Nat × Value)} {kind : TypeDesc} (hu : P.underlying t = some kind) {w : World} (h : (Instr.findAsking t x L 0).run P w = .ok r w) : (Instr.findKey t x L).run P w = .ok r w := by
  have hr : (underlying t).run P w = .ok kind w := by simp [underlying, hu]
  unfold Instr.findKey
  rw [Sem.run_bind, hr]
  show Sem.run P (match Instr.findNow kind x L 0 with | some r => pure r | none => Instr.findAsking t x L) w = _
  cases hf : Instr.findNow kind x L 0 with
  | none => exact h
  | some r' =>
    have := run_findNow hu x w L 0 r' hf
    rw [h] at this
    cases this
    rfl
/-- What the search says. -/
def Found (P : Program) (t : TypeId) (key : V) (es : List (V × V × Nat)) (j : Nat) (q v : V) (n : Nat) : Prop :=
  es[j]? = some (q, v, n) ∧ ∀ ρ u L, VR ρ key u → ML ρ es L → ∃ e, L[j]? = some e ∧ VR ρ q e.key ∧ VR ρ v e.val ∧ e.born = n ∧ ∀ w i, (Instr.findAsking t u L i).run P w = .ok (some (i + j, e.val)) w
def NotFound (P : Program) (t : TypeId) (key : V) (es : List (V × V × Nat)) : Prop := ∀ ρ u L, VR ρ key u → ML ρ es L → ∀ w i, (Instr.findAsking t u L i).run P w = .ok none w
theorem findK_ok {Γ : Ctx} (hΓ : ∀ t ti, Γ.ty.get t = some ti → TyOk P t ti) (m : Bool) (t : TypeId) (key : V) : ∀ (es : List (V × V × Nat)) (i : Nat) (yes : Nat → V → V → Nat → R) (no : R),
    Out bad (findK bad Γ m t key es i yes no) fun e => (∃ j q v n, Found P t key es j q v n ∧ e = yes (i + j) q v n) ∨ (NotFound P t key es ∧ e = no)
  | [], i, yes, no => .inr (.inr ⟨fun ρ u L hu hL w i => by cases hL; rfl, rfl⟩)
  | (q, v, n) :: es, i, yes, no => by
    unfold findK
    refine (eqV_ok hΓ m 100 10000 (by decide) t key q _).out fun b hb => ?_
    cases b with
    | true =>
      rw [cond_true]
      refine .inr (.inl ⟨0, q, v, n, ⟨rfl, fun ρ u L hu hL => ?_⟩, rfl⟩)
      cases hL with
      | cons _ _ _ kk x _ L hq hv hL =>
        refine ⟨_, rfl, hq, hv, rfl, fun w i => ?_⟩
        have h1 : (Op.equal t u kk).run P w = .ok true w := hb ρ u kk hu hq w
        simp [Instr.findAsking, h1]
    | false =>
      rw [cond_false]
      have ih := findK_ok hΓ m t key es (Nat.succ i) yes no
      rcases ih with e | ⟨j, q', v', n', ⟨h1, h2⟩, e⟩ | ⟨h1, e⟩
      · exact .inl e
      · rw [e]
        refine .inr (.inl ⟨j + 1, q', v', n', ⟨by simpa using h1, fun ρ u L hu hL => ?_⟩, by rw [show Nat.succ i + j = i + (j + 1) by omega]⟩)
        cases hL with
        | cons _ _ _ kk x _ L hq hv hL =>
          obtain ⟨e, h3, h4, h5, h6, h7⟩ := h2 ρ u L hu hL
          refine ⟨e, by simpa using h3, h4, h5, h6, fun w i => ?_⟩
          have h8 : (Op.equal t u kk).run P w = .ok false w := hb ρ u kk hu hq w
          simp [Instr.findAsking, h8, h7]
          omega
      · rw [e]
        refine .inr (.inr ⟨fun ρ u L hu hL w i => ?_, rfl⟩)
        cases hL with
        | cons _ _ _ kk x _ L hq hv hL =>
          have h8 : (Op.equal t u kk).run P w = .ok false w := hb ρ u kk hu hq w
          simp [Instr.findAsking, h8, h1 ρ u L hu hL]
end
end Go.E
