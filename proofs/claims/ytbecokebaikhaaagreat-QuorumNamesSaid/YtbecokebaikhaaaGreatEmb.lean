/-
  E: maps, second text: what the operations do.
-/
import Derived.Test.YtbecokebaikhaaaGreatEma
namespace Go.E
open Go Go.RowKit Go.V
set_option linter.unusedVariables false
set_option linter.unusedSimpArgs false
section
variable {R : Type} {bad : R} {P : Program} {fl fd : Nat} {env : En} {h : H} {nx : Nat} {o : Op} {k : V → H → Nat → R}
theorem sameA_ok {ρ : Plc} {a b : A} {x y : Value} (hs : sameA a b = true) (hx : AR ρ a x) (hy : AR ρ b y) (n : Nat) : Instr.sameBits n x y = true := by
  have two_both : ∀ {p q : Bool}, two p q = true → p = true ∧ q = true := by intro p q h; cases p <;> simp_all [two]
  unfold sameA at hs
  split at hs
  · rename_i p q
    cases hx; cases hy
    cases n <;> cases p <;> cases q <;> simp_all [Instr.sameBits]
  · rename_i kd p kd' q
    obtain ⟨h1, h2⟩ := two_both hs
    have h1 := kn_inj h1
    have h2 := Nat.eq_of_beq_eq_true h2
    subst h1 h2
    cases hx; cases hy
    cases n <;> simp [Instr.sameBits]
  · rename_i n1 s m t
    obtain ⟨h1, h2⟩ := two_both hs
    have h1 := Nat.eq_of_beq_eq_true h1
    have h2 := Nat.eq_of_beq_eq_true h2
    subst h1 h2
    cases hx with
    | str x _ _ e1 e2 => cases hy with
      | str y _ _ e3 e4 =>
        have : x.data.toList = y.data.toList := packB_inj (by simp; exact e1.trans e3.symm) (by rw [e2, e4])
        have : x = y := by cases x; cases y; congr 1; exact Array.ext' this
        subst this
        have e0 : (x == x) = true := by
          have : (x == x) = (x.data == x.data) := by cases x; rfl
          rw [this]; simp
        cases n <;> simpa [Instr.sameBits] using e0
  · cases hx; cases hy
    cases n <;> simp [Instr.sameBits]
  · rename_i b1 o1 c1 p1
    obtain ⟨h1, h2⟩ := two_both hs
    have h1 := Nat.eq_of_beq_eq_true h1
    have h2 := Nat.eq_of_beq_eq_true h2
    subst h1 h2
    cases hx with
    | ptr _ _ p e1 => cases hy with
      | ptr _ _ q e2 =>
        rw [e1] at e2
        cases e2
        cases n <;> simp [Instr.sameBits]
  · cases hs
theorem zip_all {f : Value → Value → Bool} : ∀ {xs ys : List Value}, xs.length = ys.length → (∀ (i : Nat) x y, xs[i]? = some x → ys[i]? = some y → f x y = true) → ((xs.zip ys).all fun (x, y) => f x y) = true
  | [], ys, _, _ => by simp
  | x :: xs, [], hl, _ => by simp at hl
  | x :: xs, y :: ys, hl, h => by
    simp only [List.zip_cons_cons, List.all_cons, Bool.and_eq_true]
    exact ⟨h 0 x y rfl rfl, zip_all (by simpa using hl) fun i x y h1 h2 => h (i + 1) x y (by simpa using h1) (by simpa using h2)⟩
theorem sameR_at : ∀ {c o : Nat} {r s : Rope}, sameR c o r s = true → ∀ i, o ≤ i → i < o + c → ∃ a b, r.get i = some a ∧ s.get i = some b ∧ sameA a b = true
  | 0, o, r, s, _, i, h1, h2 => by omega
  | c + 1, o, r, s, h, i, h1, h2 => by
    unfold sameR at h
    split at h
    · rename_i a b ha hb
      cases hs : sameA a b with
      | false => rw [hs] at h; cases h
      | true =>
        rw [hs, cond_true] at h
        by_cases he : i = o
        · subst he; exact ⟨a, b, ha, hb, hs⟩
        · exact sameR_at h i (by show o + 1 ≤ i; omega) (by show i < o + 1 + c; omega)
    · cases h
theorem sameK_ok {ρ : Plc} {q key : V} {x y : Value} (hs : sameK q key = true) (hx : VR ρ q x) (hy : VR ρ key y) : Instr.sameBits 10000 x y = true := by
  have two_both : ∀ {p q : Bool}, two p q = true → p = true ∧ q = true := by intro p q h; cases p <;> simp_all [two]
  unfold sameK at hs
  split at hs
  · exact sameA_ok hs hx.atom hy.atom _
  · rename_i r s
    cases hx with
    | agg _ xs hx => cases hy with
      | agg _ ys hy =>
        have fin : xs.length = ys.length → (∀ (i : Nat) x y, xs[i]? = some x → ys[i]? = some y → Instr.sameBits 9999 x y = true) → Instr.sameBits (9999 + 1) (.agg xs.toArray) (.agg ys.toArray) = true := by
          intro hl h
          rw [Instr.sameBits]
          simp only [Bool.and_eq_true]
          exact ⟨by simpa using hl, zip_all hl h⟩
        split at hs
        · rename_i n p m q h1 h2
          obtain ⟨e1, e2⟩ := two_both hs
          have e1 := Nat.eq_of_beq_eq_true e1
          have e2 := Nat.eq_of_beq_eq_true e2
          subst e1 e2
          obtain ⟨rfl, _⟩ := rope_bytes hx h1
          obtain ⟨rfl, _⟩ := rope_bytes hy h2
          refine fin rfl fun i x y h3 h4 => ?_
          rw [h3] at h4
          cases h4
          have hi : i < n := by
            rcases Nat.lt_or_ge i n with h | h
            · exact h
            · rw [List.getElem?_eq_none (by rw [length_bcells]; exact h)] at h3; cases h3
          rw [bcells_get hi] at h3
          cases h3
          simp [Instr.sameBits]
        · obtain ⟨e1, e2⟩ := two_both hs
          have e1 := Nat.eq_of_beq_eq_true e1
          rw [hx.len, hy.len] at e1
          refine fin e1 fun i x y h3 h4 => ?_
          have hi : i < xs.length := by
            rcases Nat.lt_or_ge i xs.length with h | h
            · exact h
            · rw [List.getElem?_eq_none h] at h3; cases h3
          obtain ⟨a, b, h5, h6, h7⟩ := sameR_at e2 i (Nat.zero_le _) (by rw [hx.len]; omega)
          obtain ⟨x', h8, h9⟩ := hx.get h5
          obtain ⟨y', h10, h11⟩ := hy.get h6
          rw [h3] at h8
          rw [h4] at h10
          cases h8; cases h10
          exact sameA_ok h7 h9 h11 _
  · cases hs
theorem zeroVK_ok {t : TypeId} {te : TI} (hT : TyOk P t te) (k : V → R) : Ok1 bad (zeroVK bad te k) k fun z => ∀ ρ w, ∃ x, (zeroValue t).run P w = .ok x w ∧ VR ρ z x := by
  unfold zeroVK
  cases ha : te.agg with
  | true =>
    rw [cond_true]
    refine .inr ⟨_, fun ρ w => ?_, rfl⟩
    obtain ⟨z, h1, h2, h3, h4⟩ := hT.run_zero w
    refine ⟨z, h1, ?_⟩
    rw [ha] at h2
    cases z with
    | agg cs => exact .agg _ cs.toList (h4 ρ)
    | _ => cases h2
  | false =>
    rw [cond_false]
    split
    · rename_i a hg
      refine .inr ⟨_, fun ρ w => ?_, rfl⟩
      obtain ⟨z, h1, h2, h3, h4⟩ := hT.run_zero w
      refine ⟨z, h1, .at _ _ ?_⟩
      rw [ha] at h2
      obtain ⟨x, h5, h6⟩ := (h4 ρ).get hg
      have : z.cells = #[z] := by cases z <;> first | rfl | cases h2
      rw [this] at h5
      cases h5
      exact h6
    · exact .inl rfl
theorem TyOk.mp {t a b : TypeId} {ti : TI} (h : TyOk P t ti) (hk : ti.k = .mp a b) : P.underlying t = some (.map a b) := by
  obtain ⟨u, hu, hd⟩ := h.u
  rw [hk] at hd
  cases u <;> simp only [descK, Bool.and_eq_true] at hd <;> first | (cases hd; done) | skip
  obtain ⟨h1, h2⟩ := hd
  have h1 := Nat.eq_of_beq_eq_true h1
  have h2 := Nat.eq_of_beq_eq_true h2
  subst h1 h2
  exact hu
theorem mtyK_ok {Γ : Ctx} (hΓ : ∀ t ti, Γ.ty.get t = some ti → TyOk P t ti) (t : TypeId) {k : TypeId → TI → R} {S : R → Prop} (hk : ∀ a b tb, P.underlying t = some (.map a b) → (∃ ka, P.underlying a = some ka) → TyOk P b tb → Out bad (k a tb) S) : Out bad (mtyK bad Γ t k) S := by
  unfold mtyK
  refine (tyK_ok hΓ t _).out fun ti hti => ?_
  split
  · rename_i a b hab
    exact (tyK_ok hΓ a _).out fun ta hta => (tyK_ok hΓ b _).out fun tb htb => hk a b tb (hti.mp hab) (hta.u.imp fun _ h => h.1) htb
  · exact .inl rfl
theorem mapK_ok {b : Nat} {k : List (V × V × Nat) → Nat → R} : mapK bad h b k = bad ∨ ∃ es c, h.get b = some (.map es c) ∧ mapK bad h b k = k es c := by
  unfold mapK
  split
  · rename_i es c hh; exact .inr ⟨es, c, hh, rfl⟩
  · exact .inl rfl
theorem Rel.map {ρ : Plc} {g : Hp} {w : World} {nx b : Nat} {es : List (V × V × Nat)} {c : Nat} {p : Pl} (hr : Rel ρ g nx w) (hb : g b = some (.map es c)) (hp : ρ b = some p) : ∃ L : List MapEntry, w.heap[p.blk]? = some (.map L.toArray c) ∧ ML ρ es L := by
  obtain ⟨q, hq, hh⟩ := hr.blk b _ hb
  rw [hp] at hq
  cases hq
  exact hh
theorem run_getObj {w : World} {r : Nat} {L : Array MapEntry} {c : Nat} (hh : w.heap[r]? = some (.map L c)) : (getObj r).run P w = .ok (.map L c) w := by
  unfold getObj
  simp only [Sem.run]
  rw [hh]
theorem run_setObj {w : World} {r : Nat} {L : Array MapEntry} {c : Nat} (o : Obj) (hh : w.heap[r]? = some (.map L c)) : ∃ w', (setObj r o).run P w = .ok () w' ∧ Upd r w w' ∧ w'.heap[r]? = some o := by
  refine ⟨{ w with heap := w.heap.setIfInBounds r o }, ?_, ⟨rfl, rfl, rfl, by simp, fun k hk => ?_⟩, ?_⟩
  · unfold setObj
    simp only [Sem.run]
    rw [hh]
  · simp [Array.getElem?_setIfInBounds, hk.symm]
  · have hlt := (Array.getElem?_eq_some_iff.1 hh).1
    simp [Array.getElem?_setIfInBounds, hlt]
theorem stp_map {ρ : Plc} {g g' : Hp} {nx : Nat} {w w' : World} (hr : Rel ρ g nx w) {b : Nat} {p : Pl} {es es' : List (V × V × Nat)} {c c' : Nat} {L' : List MapEntry} (hb : g b = some (.map es c)) (hp : ρ b = some p) (hfl : fl ≤ b) (hL : ML ρ es' L')
    (hw : w'.heap[p.blk]? = some (.map L'.toArray c')) (hu : Upd p.blk w w') (hg : ∀ j, g' j = if j = b then some (.map es' c') else g j) : Stp fl fd ρ g nx w ρ g' nx w' :=
  stp_setB (B1 := .map es' c') hr hb hp hfl (show ∃ L : List MapEntry, some (Obj.map L'.toArray c') = some (.map L.toArray c') ∧ ML ρ es' L from ⟨L', rfl, hL⟩) hw hu hg
theorem ML.set {ρ : Plc} {es : List (V × V × Nat)} {L : List MapEntry} (h : ML ρ es L) : ∀ {j : Nat} {q v : V} {n : Nat} {kk x : Value}, VR ρ q kk → VR ρ v x → ML ρ (es.set j (q, v, n)) (L.set j ⟨kk, x, n⟩) := by
  induction h with
  | nil => intro j q v n kk x _ _; exact .nil
  | cons q v n kk x es L hq hv hL ih =>
    intro j q' v' n' kk' x' h1 h2
    cases j with
    | zero => exact .cons _ _ _ _ _ _ _ h1 h2 hL
    | succ j => exact .cons _ _ _ _ _ _ _ hq hv (ih h1 h2)
theorem ML.push {ρ : Plc} {es : List (V × V × Nat)} {L : List MapEntry} (h : ML ρ es L) {q v : V} {n : Nat} {kk x : Value} (h1 : VR ρ q kk) (h2 : VR ρ v x) : ML ρ (es ++ [(q, v, n)]) (L ++ [⟨kk, x, n⟩]) := by
  induction h with
  | nil => exact .cons _ _ _ _ _ _ _ h1 h2 .nil
  | cons q v n kk x es L hq hv hL ih => exact .cons _ _ _ _ _ _ _ hq hv ih
theorem ML.emp {ρ : Plc} {es : List (V × V × Nat)} {L : List MapEntry} (h : ML ρ es L) : es.length = L.length := by
  induction h with
  | nil => rfl
  | cons _ _ _ _ _ _ _ _ _ _ ih => simp [ih]
/-- How a map is asked, and changed. -/
theorem makeMap_ok {Γ : Ctx} (hΓ : ∀ t ti, Γ.ty.get t = some ti → TyOk P t ti) (m : Bool) (t : TypeId) (r : Option Operand) :
    Out bad (tyK bad Γ t fun ti => match ti.k with
      | .mp _ _ => (match r with
        | none => newK bad m h nx (.map [] 0) fun h nx' => k (.at (.map nx)) h nx'
        | some x => eA bad m env x fun a => idxK bad a fun _ => newK bad m h nx (.map [] 0) fun h nx' => k (.at (.map nx)) h nx')
      | _ => bad) (OutO P fl fd env h nx (.makeMap t r) k) := by
  refine (tyK_ok hΓ t _).out fun ti hti => ?_
  split
  · rename_i a b hab
    have hu := hti.mp hab
    have fin : (∀ ρ n act, EnvOk ρ n env act → ∀ w, (Instr.makeMap t (r.map act.eval)).run P w = .ok (.map (some w.heap.size)) { w with heap := w.heap.push (.map #[] 0) }) →
        Out bad (newK bad m h nx (.map [] 0) fun h nx' => k (.at (.map nx)) h nx') (OutO P fl fd env h nx (.makeMap t r) k) := by
      intro hrun
      rcases newK_ok (bad := bad) (h := h) (nx := nx) m (.map [] 0) (fun h nx' => k (.at (.map nx)) h nx') with e | ⟨h', nx', ⟨rfl, hg⟩, e⟩
      · exact .inl e
      · rw [e]
        refine .inr ⟨_, h', nx + 1, fun ρ n act w he hr d ty pos aft g => ?_, rfl⟩
        have h1 := hrun ρ n act he w
        have h2 : (execOp act.eval ⟨d, .makeMap t r, ty, pos, aft, g⟩).run P w = .ok (.value (.map (some w.heap.size))) { w with heap := w.heap.push (.map #[] 0) } := by
          simp [execOp, h1]
        rw [h2]
        have hst := stp_newB (fl := fl) (fd := fd) (w' := { w with heap := w.heap.push (.map #[] 0) }) hr (ob := .map #[] 0) (sz := 0) (B0 := .map [] 0) (fun ρ' _ => show ∃ L : List MapEntry, some (Obj.map #[] 0) = some (.map L.toArray 0) ∧ ML ρ' [] L from ⟨[], rfl, .nil⟩) rfl rfl rfl rfl hg
        exact ⟨_, .at _ _ (.map nx ⟨w.heap.size, 0, 0⟩ (by simp)), hst⟩
    cases r with
    | none =>
      refine fin fun ρ n act he w => ?_
      simp [Instr.makeMap]
    | some x =>
      refine (eA_ok m env x _).out fun a ha => (idxK_ok a _).out fun i hi => fin fun ρ n act he w => ?_
      obtain ⟨kd, hx⟩ := hi ρ _ (ha ρ n act he)
      simp [Instr.makeMap, und_run hu, hx, asInt, asIntOf]
  · exact .inl rfl
theorem lookup_ok {Γ : Ctx} (hΓ : ∀ t ti, Γ.ty.get t = some ti → TyOk P t ti) (m : Bool) (t : TypeId) (x i : Operand) (ok : Bool) :
    Out bad (eA bad m env x fun a => eO bad m env i fun key => lookK bad Γ m h t a key ok fun v => k v h nx) (OutO P fl fd env h nx (.lookup t x i ok) k) := by
  refine (eA_ok m env x _).out fun a ha => (eO_ok m env i _).out fun key hkey => ?_
  unfold lookK
  refine mtyK_ok hΓ t fun ta tb tbi hu ⟨ka, hka⟩ htb => ?_
  -- what is handed out
  have out : ∀ (v : V) (b : Bool), (∀ ρ n act w, EnvOk ρ n env act → Rel ρ h.get nx w → ∃ y, (Instr.lookup t (act.eval x) (act.eval i) ok).run P w = .ok (if ok then .tuple #[y, .bool b] else y) w ∧ VR ρ v y) →
      Out bad ((bif ok then k (.tup [v, .at (.bool b)]) h nx else k v h nx)) (OutO P fl fd env h nx (.lookup t x i ok) k) := by
    intro v b hrun
    cases ok with
    | false =>
      refine .inr ⟨v, h, nx, fun ρ n act w he hr d ty pos aft g => ?_, rfl⟩
      obtain ⟨y, h1, h2⟩ := hrun ρ n act w he hr
      have h3 : (execOp act.eval ⟨d, .lookup t x i false, ty, pos, aft, g⟩).run P w = .ok (.value y) w := by simp [execOp, h1]
      rw [h3]
      exact ⟨ρ, h2, Stp.refl hr⟩
    | true =>
      refine .inr ⟨.tup [v, .at (.bool b)], h, nx, fun ρ n act w he hr d ty pos aft g => ?_, rfl⟩
      obtain ⟨y, h1, h2⟩ := hrun ρ n act w he hr
      have h3 : (execOp act.eval ⟨d, .lookup t x i true, ty, pos, aft, g⟩).run P w = .ok (.value (.tuple #[y, .bool b])) w := by simp [execOp, h1]
      rw [h3]
      refine ⟨ρ, ?_, Stp.refl hr⟩
      refine VR.tup [v, .at (.bool b)] [y, .bool b] rfl fun j v' x' hj hx => ?_
      match j with
      | 0 => cases hj; cases hx; exact h2
      | 1 => cases hj; cases hx; exact .at _ _ (.bool _)
      | j + 2 => cases hj
  split
  · rcases chkV_ok (bad := bad) hΓ m 100 10000 (by decide) ta key _ with e | ⟨hck, e⟩
    · exact .inl e
    · rw [e]
      refine (zeroVK_ok htb _).out fun z hz => out z false fun ρ n act w he hr => ?_
      obtain ⟨y, h1, h2⟩ := hz ρ w
      refine ⟨y, ?_, h2⟩
      have h3 : act.eval x = .map none := by
        have := ha ρ n act he
        generalize act.eval x = xv at this ⊢
        cases this; rfl
      have h4 := hck ρ _ (hkey ρ n act he)
      have h5 : (Instr.findKey ta (act.eval i) []).run P w = .ok none w := run_findKey hka rfl
      cases ok <;> simp [Instr.lookup, und_run hu, h3, h4, h5, h1]
  · rename_i r
    rcases mapK_ok (bad := bad) (h := h) (b := r) with e | ⟨es, c, hh, e⟩
    · exact .inl e
    · rw [e]
      rcases chkV_ok (bad := bad) hΓ m 100 10000 (by decide) ta key _ with e | ⟨hck, e⟩
      · exact .inl e
      · rw [e]
        rcases findK_ok (bad := bad) hΓ m ta key es 0 _ _ with e | ⟨j, q, v, s, hf, e⟩ | ⟨hf, e⟩
        · exact .inl e
        · rw [e]
          refine out v true fun ρ n act w he hr => ?_
          have h3 := ha ρ n act he
          generalize hx : act.eval x = xv at h3
          cases h3 with
          | map _ p hp =>
            obtain ⟨L, h5, h6⟩ := hr.map hh hp
            obtain ⟨en, g1, g2, g3, g4, g5⟩ := hf.2 ρ _ L (hkey ρ n act he) h6
            refine ⟨en.val, ?_, g3⟩
            have h4 := hck ρ _ (hkey ρ n act he)
            have h7 := run_getObj (P := P) h5
            have h8 : (Instr.findKey ta (act.eval i) L).run P w = .ok (some (0 + j, en.val)) w := run_findKey hka (g5 w 0)
            cases ok <;> simp [Instr.lookup, und_run hu, hx, h4, h7, h8]
        · rw [e]
          refine (zeroVK_ok htb _).out fun z hz => out z false fun ρ n act w he hr => ?_
          obtain ⟨y, h1, h2⟩ := hz ρ w
          refine ⟨y, ?_, h2⟩
          have h3 := ha ρ n act he
          generalize hx : act.eval x = xv at h3
          cases h3 with
          | map _ p hp =>
            obtain ⟨L, h5, h6⟩ := hr.map hh hp
            have g5 := hf ρ _ L (hkey ρ n act he) h6
            have h4 := hck ρ _ (hkey ρ n act he)
            have h7 := run_getObj (P := P) h5
            have h8 : (Instr.findKey ta (act.eval i) L).run P w = .ok none w := run_findKey hka (g5 w 0)
            cases ok <;> simp [Instr.lookup, und_run hu, hx, h4, h7, h8, h1]
  · exact .inl rfl
theorem keyStays {ρ : Plc} {q key : V} {x y : Value} (hs : sameK q key = true) (hx : VR ρ q x) (hy : VR ρ key y) (w : World) : (Instr.keyThatStays x y).run P w = .ok y w := by
  unfold Instr.keyThatStays
  rw [if_pos (sameK_ok hs hx hy)]
  rfl
theorem list_modify {L : List MapEntry} {j : Nat} {e : MapEntry} (hj : L[j]? = some e) (f : MapEntry → MapEntry) : L.modify j f = L.set j (f e) := by
  apply List.ext_getElem?
  intro i
  obtain ⟨hlt, hje⟩ := List.getElem?_eq_some_iff.1 hj
  simp only [List.getElem?_modify, List.getElem?_set]
  by_cases h : j = i
  · subst h; simp [hlt, hje]
  · simp [h]
/-- An operation that changes a map. -/
theorem mapSet_ok {Γ : Ctx} (hΓ : ∀ t ti, Γ.ty.get t = some ti → TyOk P t ti) (m : Bool) (t : TypeId) (x i y : Operand) (hop : o = .mapUpdate t x i y ∨ o = .insert t x i y) :
    Out bad (eA bad m env x fun a => eO bad m env i fun key => eO bad m env y fun v => mapSetK bad Γ m fl h t a key v fun h => k .undef h nx) (OutO P fl fd env h nx o k) := by
  refine (eA_ok m env x _).out fun a ha => (eO_ok m env i _).out fun key hkey => (eO_ok m env y _).out fun v hv => ?_
  have hex : ∀ (act : Act) (d : Option Tmp) ty pos aft g w w', (Instr.mapUpdate t (act.eval x) (act.eval i) (act.eval y)).run P w = .ok () w' → (execOp act.eval ⟨d, o, ty, pos, aft, g⟩).run P w = .ok .skip w' := by
    intro act d ty pos aft g w w' h1
    rcases hop with rfl | rfl <;> simp [execOp, h1]
  unfold mapSetK
  refine mtyK_ok hΓ t fun ta tb tbi hu ⟨ka, hka⟩ htb => ?_
  split
  · rename_i r
    refine out_if fun hfl => ?_
    have hfl : fl ≤ r := Nat.le_of_ble_eq_true hfl
    rcases mapK_ok (bad := bad) (h := h) (b := r) with e | ⟨es, c, hh, e⟩
    · exact .inl e
    · rw [e]
      rcases chkV_ok (bad := bad) hΓ m 100 10000 (by decide) ta key _ with e | ⟨hck, e⟩
      · exact .inl e
      · rw [e]
        rcases findK_ok (bad := bad) hΓ m ta key es 0 _ _ with e | ⟨j, q, v0, s, hf, e⟩ | ⟨hf, e⟩
        · exact .inl e
        · rw [e]
          refine out_if fun hs => ?_
          rcases setK_ok (bad := bad) (h := h) r (.map (es.set (0 + j) (key, v, s)) c) (fun h => k .undef h nx) with e | ⟨h', hg, e⟩
          · exact .inl e
          · rw [e]
            refine .inr ⟨_, h', nx, fun ρ n act w he hr d ty pos aft g => ?_, rfl⟩
            have h3 := ha ρ n act he
            have hx' := hex act d ty pos aft g w
            generalize act.eval x = xv at h3 hx'
            cases h3 with
            | map _ p hp =>
              obtain ⟨L, h5, h6⟩ := hr.map hh hp
              obtain ⟨en, g1, g2, g3, g4, g5⟩ := hf.2 ρ _ L (hkey ρ n act he) h6
              have h4 := hck ρ _ (hkey ρ n act he)
              have h7 := run_getObj (P := P) h5
              have h8 : (Instr.findKey ta (act.eval i) L).run P w = .ok (some (0 + j, en.val)) w := run_findKey hka (g5 w 0)
              have h9 := keyStays (P := P) hs g2 (hkey ρ n act he) w
              rw [Nat.zero_add] at h8 hg
              obtain ⟨w', e1, e2, e3⟩ := run_setObj (P := P) (.map (L.set j ⟨act.eval i, act.eval y, en.born⟩).toArray c) h5
              have e4 := list_modify g1 fun e => { e with key := act.eval i, val := act.eval y }
              have hrun : (Instr.mapUpdate t (.map (some p.blk)) (act.eval i) (act.eval y)).run P w = .ok () w' := by
                simp [Instr.mapUpdate, und_run hu, h7, h4, h8, g1, h9, e4, e1]
              rw [hx' w' hrun]
              have hML : ML ρ (es.set j (key, v, s)) (L.set j ⟨act.eval i, act.eval y, en.born⟩) := by
                rw [← g4]; exact h6.set (hkey ρ n act he) (hv ρ n act he)
              exact ⟨ρ, .undef, stp_map hr hh hp hfl hML e3 e2 hg⟩
        · rw [e, natK_eq]
          rcases setK_ok (bad := bad) (h := h) r (.map (es ++ [(key, v, c)]) (Nat.succ c)) (fun h => k .undef h nx) with e | ⟨h', hg, e⟩
          · exact .inl e
          · rw [e]
            refine .inr ⟨_, h', nx, fun ρ n act w he hr d ty pos aft g => ?_, rfl⟩
            have h3 := ha ρ n act he
            have hx' := hex act d ty pos aft g w
            generalize act.eval x = xv at h3 hx'
            cases h3 with
            | map _ p hp =>
              obtain ⟨L, h5, h6⟩ := hr.map hh hp
              have g5 := hf ρ _ L (hkey ρ n act he) h6
              have h4 := hck ρ _ (hkey ρ n act he)
              have h7 := run_getObj (P := P) h5
              have h8 : (Instr.findKey ta (act.eval i) L).run P w = .ok none w := run_findKey hka (g5 w 0)
              obtain ⟨w', e1, e2, e3⟩ := run_setObj (P := P) (.map (L ++ [({ key := act.eval i, val := act.eval y, born := c } : MapEntry)]).toArray (c + 1)) h5
              have hrun : (Instr.mapUpdate t (.map (some p.blk)) (act.eval i) (act.eval y)).run P w = .ok () w' := by
                simp [Instr.mapUpdate, und_run hu, h7, h4, h8, e1]
              rw [hx' w' hrun]
              exact ⟨ρ, .undef, stp_map hr hh hp hfl (h6.push (hkey ρ n act he) (hv ρ n act he)) e3 e2 hg⟩
  · exact .inl rfl
theorem mapEntry_ok {Γ : Ctx} (hΓ : ∀ t ti, Γ.ty.get t = some ti → TyOk P t ti) (m : Bool) (t : TypeId) (x i : Operand) :
    Out bad (eA bad m env x fun a => eO bad m env i fun key => mapEntryK bad Γ m fl h t a key fun v h => k v h nx) (OutO P fl fd env h nx (.mapEntry t x i) k) := by
  refine (eA_ok m env x _).out fun a ha => (eO_ok m env i _).out fun key hkey => ?_
  unfold mapEntryK
  refine mtyK_ok hΓ t fun ta tb tbi hu ⟨ka, hka⟩ htb => ?_
  have two_both : ∀ {p q : Bool}, two p q = true → p = true ∧ q = true := by intro p q h; cases p <;> simp_all [two]
  have pair : ∀ {ρ : Plc} {v : V} {y : Value} {s : Nat}, VR ρ v y → Nat.blt s 9223372036854775808 = true → VR ρ (.tup [v, .at (.int .i64 s)]) (.tuple #[y, goInt (s : Int)]) := by
    intro ρ v y s h1 h2
    have h2 : s < 9223372036854775808 := Nat.le_of_ble_eq_true h2
    refine VR.tup [v, .at (.int .i64 s)] [y, goInt (s : Int)] rfl fun j v' x' hj hx => ?_
    match j with
    | 0 => cases hj; cases hx; exact h1
    | 1 =>
      cases hj; cases hx
      refine .at _ _ ?_
      have := AR.int (ρ := ρ) .i64 s (by simp only [md]; omega)
      rwa [wrap_lo (k := .i64) (by simp only [tp]; omega)] at this
    | j + 2 => cases hj
  split
  · rename_i r
    refine out_if fun hfl => ?_
    have hfl : fl ≤ r := Nat.le_of_ble_eq_true hfl
    rcases mapK_ok (bad := bad) (h := h) (b := r) with e | ⟨es, c, hh, e⟩
    · exact .inl e
    · rw [e]
      rcases chkV_ok (bad := bad) hΓ m 100 10000 (by decide) ta key _ with e | ⟨hck, e⟩
      · exact .inl e
      · rw [e]
        rcases findK_ok (bad := bad) hΓ m ta key es 0 _ _ with e | ⟨j, q, v0, s, hf, e⟩ | ⟨hf, e⟩
        · exact .inl e
        · rw [e]
          refine out_if fun hs => ?_
          obtain ⟨hs, hs2⟩ := two_both hs
          rcases setK_ok (bad := bad) (h := h) r (.map (es.set (0 + j) (key, v0, s)) c) (fun h => k (.tup [v0, .at (.int .i64 s)]) h nx) with e | ⟨h', hg, e⟩
          · exact .inl e
          · rw [e]
            refine .inr ⟨_, h', nx, fun ρ n act w he hr d ty pos aft g => ?_, rfl⟩
            have h3 := ha ρ n act he
            generalize hx : act.eval x = xv at h3
            cases h3 with
            | map _ p hp =>
              obtain ⟨L, h5, h6⟩ := hr.map hh hp
              obtain ⟨en, g1, g2, g3, g4, g5⟩ := hf.2 ρ _ L (hkey ρ n act he) h6
              have h4 := hck ρ _ (hkey ρ n act he)
              have h7 := run_getObj (P := P) h5
              have h8 : (Instr.findKey ta (act.eval i) L).run P w = .ok (some (0 + j, en.val)) w := run_findKey hka (g5 w 0)
              have h9 := keyStays (P := P) hs g2 (hkey ρ n act he) w
              rw [Nat.zero_add] at h8 hg
              obtain ⟨w', e1, e2, e3⟩ := run_setObj (P := P) (.map (L.set j ⟨act.eval i, en.val, en.born⟩).toArray c) h5
              have e4 := list_modify g1 fun e => { e with key := act.eval i }
              have hrun : (execOp act.eval ⟨d, .mapEntry t x i, ty, pos, aft, g⟩).run P w = .ok (.value (.tuple #[en.val, goInt (en.born : Int)])) w' := by
                simp [execOp, Instr.mapEntry, und_run hu, hx, h7, h4, h8, g1, h9, e4, e1]
              rw [hrun]
              have hML : ML ρ (es.set j (key, v0, s)) (L.set j ⟨act.eval i, en.val, en.born⟩) := by
                rw [← g4]; exact h6.set (hkey ρ n act he) g3
              refine ⟨ρ, ?_, stp_map hr hh hp hfl hML e3 e2 hg⟩
              rw [g4]; exact pair g3 hs2
        · rw [e]
          refine (zeroVK_ok htb _).out fun z hz => out_if fun hs2 => ?_
          rw [natK_eq]
          rcases setK_ok (bad := bad) (h := h) r (.map (es ++ [(key, z, c)]) (Nat.succ c)) (fun h => k (.tup [z, .at (.int .i64 c)]) h nx) with e | ⟨h', hg, e⟩
          · exact .inl e
          · rw [e]
            refine .inr ⟨_, h', nx, fun ρ n act w he hr d ty pos aft g => ?_, rfl⟩
            have h3 := ha ρ n act he
            generalize hx : act.eval x = xv at h3
            cases h3 with
            | map _ p hp =>
              obtain ⟨L, h5, h6⟩ := hr.map hh hp
              have g5 := hf ρ _ L (hkey ρ n act he) h6
              have h4 := hck ρ _ (hkey ρ n act he)
              have h7 := run_getObj (P := P) h5
              have h8 : (Instr.findKey ta (act.eval i) L).run P w = .ok none w := run_findKey hka (g5 w 0)
              obtain ⟨zz, z1, z2⟩ := hz ρ w
              obtain ⟨w', e1, e2, e3⟩ := run_setObj (P := P) (.map (L ++ [({ key := act.eval i, val := zz, born := c } : MapEntry)]).toArray (c + 1)) h5
              have hrun : (execOp act.eval ⟨d, .mapEntry t x i, ty, pos, aft, g⟩).run P w = .ok (.value (.tuple #[zz, goInt (c : Int)])) w' := by
                simp [execOp, Instr.mapEntry, und_run hu, hx, h7, h4, h8, z1, e1]
              rw [hrun]
              exact ⟨ρ, pair z2 hs2, stp_map hr hh hp hfl (h6.push (hkey ρ n act he) z2) e3 e2 hg⟩
  · exact .inl rfl
theorem stampK_ok {n : Nat} : ∀ {es : List (V × V × Nat)} {j : Nat} {k : Nat → V → R}, stampK bad n es j k = bad ∨ ∃ i q v, es[i]? = some (q, v, n) ∧ (∀ i', i' < i → ∀ q v s, es[i']? = some (q, v, s) → s ≠ n) ∧ stampK bad n es j k = k (j + i) q
  | [], j, k => .inl rfl
  | (q, v, s) :: es, j, k => by
    unfold stampK
    cases hs : Nat.beq s n with
    | true =>
      have := Nat.eq_of_beq_eq_true hs
      subst this
      exact .inr ⟨0, q, v, rfl, fun i' h => by omega, rfl⟩
    | false =>
      rw [cond_false]
      rcases stampK_ok (n := n) (es := es) (j := Nat.succ j) (k := k) with e | ⟨i, q', v', h1, h2, e⟩
      · exact .inl e
      · refine .inr ⟨i + 1, q', v', by simpa using h1, fun i' hi q0 v0 s0 h => ?_, by rw [e]; congr 1; omega⟩
        cases i' with
        | zero => cases h; exact Nat.ne_of_beq_eq_false hs
        | succ i' => exact h2 i' (by omega) q0 v0 s0 (by simpa using h)
theorem ML.at {ρ : Plc} {es : List (V × V × Nat)} {L : List MapEntry} (h : ML ρ es L) : ∀ {i : Nat} {q v : V} {n : Nat}, es[i]? = some (q, v, n) → ∃ e, L[i]? = some e ∧ VR ρ q e.key ∧ VR ρ v e.val ∧ e.born = n := by
  induction h with
  | nil => intro i q v n h; cases h
  | cons q v n kk x es L hq hv hL ih =>
    intro i q' v' n' h
    cases i with
    | zero => cases h; exact ⟨_, rfl, hq, hv, rfl⟩
    | succ i => simpa using ih (by simpa using h)
theorem findIdx_at {p : MapEntry → Bool} : ∀ {L : List MapEntry} {i : Nat} {e : MapEntry}, L[i]? = some e → p e = true → (∀ i', i' < i → ∀ e', L[i']? = some e' → p e' = false) → L.findIdx? p = some i
  | [], i, e, h, _, _ => by cases h
  | x :: L, 0, e, h, hp, _ => by cases h; simp [List.findIdx?_cons, hp]
  | x :: L, i + 1, e, h, hp, hn => by
    have h0 := hn 0 (by omega) x rfl
    have ih := findIdx_at (L := L) (i := i) (by simpa using h) hp fun i' hi e' he => hn (i' + 1) (by omega) e' (by simpa using he)
    simp [List.findIdx?_cons, h0, ih]
theorem entryStore_ok (m : Bool) (t : TypeId) (x i y : Operand) :
    Out bad (eA bad m env x fun a => eA bad m env i fun n => eO bad m env y fun v => entryStoreK bad fl h a n v fun h => k .undef h nx) (OutO P fl fd env h nx (.entryStore t x i y) k) := by
  refine (eA_ok m env x _).out fun a ha => (eA_ok m env i _).out fun st hst => (eO_ok m env y _).out fun v hv => ?_
  unfold entryStoreK
  refine (idxK_ok st _).out fun s hs => ?_
  split
  · rename_i r
    refine out_if fun hfl => ?_
    have hfl : fl ≤ r := Nat.le_of_ble_eq_true hfl
    rcases mapK_ok (bad := bad) (h := h) (b := r) with e | ⟨es, c, hh, e⟩
    · exact .inl e
    · rw [e]
      rcases stampK_ok (bad := bad) (n := s) (es := es) (j := 0) with e | ⟨j, q, v0, hj, hjn, e⟩
      · exact .inl e
      · rw [e]
        rcases setK_ok (bad := bad) (h := h) r (.map (es.set (0 + j) (q, v, s)) c) (fun h => k .undef h nx) with e | ⟨h', hg, e⟩
        · exact .inl e
        · rw [e]
          refine .inr ⟨_, h', nx, fun ρ n act w he hr d ty pos aft g => ?_, rfl⟩
          have h3 := ha ρ n act he
          obtain ⟨kd, h4⟩ := hs ρ _ (hst ρ n act he)
          generalize hx : act.eval x = xv at h3
          cases h3 with
          | map _ p hp =>
            obtain ⟨L, h5, h6⟩ := hr.map hh hp
            obtain ⟨en, g1, g2, g3, g4⟩ := h6.at hj
            have h7 := run_getObj (P := P) h5
            rw [Nat.zero_add] at hg
            have h8 : L.toArray.findIdx? (fun e => (e.born : Int) == (s : Int)) = some j := by
              rw [List.findIdx?_toArray]
              refine findIdx_at g1 (by simp [g4]) fun i' hi e' he' => ?_
              have hlt : i' < es.length := by rw [h6.emp]; exact (List.getElem?_eq_some_iff.1 he').1
              obtain ⟨e2, k1, _, _, k2⟩ := h6.at (List.getElem?_eq_getElem hlt)
              rw [he'] at k1
              cases k1
              have := hjn i' hi _ _ _ (List.getElem?_eq_getElem hlt)
              simp
              omega
            obtain ⟨w', e1, e2, e3⟩ := run_setObj (P := P) (.map (L.set j ⟨en.key, act.eval y, en.born⟩).toArray c) h5
            have e4 := list_modify g1 fun e => { e with val := act.eval y }
            have hrun : (execOp act.eval ⟨d, .entryStore t x i y, ty, pos, aft, g⟩).run P w = .ok .skip w' := by
              simp [execOp, Instr.entryStore, hx, h7, h4, asInt, asIntOf, h8, e4, e1]
            rw [hrun]
            have hML : ML ρ (es.set j (q, v, s)) (L.set j ⟨en.key, act.eval y, en.born⟩) := by
              rw [← g4]; exact h6.set g2 (hv ρ n act he)
            exact ⟨ρ, .undef, stp_map hr hh hp hfl hML e3 e2 hg⟩
  · exact .inl rfl
end
end Go.E
