/-
  E, seventeenth text, fourth part: the evaluator's checks of a region whose order is open.
-/
import Derived.Test.YtbecokebaikhaaaGreatEqc
namespace Go.E
open Go Go.RowKit Go.V
set_option linter.unusedVariables false
set_option linter.unusedSimpArgs false
section
variable {R : Type} {bad : R}
theorem pickK_ok (h : H) : ∀ (bs : List Nat) (h1 : H) (k : H → R), Ok1 bad (pickK bad h bs h1 k) k fun h' => ∀ j, h'.get j = if j ∈ bs ∧ h.get j ≠ none then h.get j else h1.get j
  | [], h1, k => .inr ⟨h1, fun j => by rw [if_neg (by simp)], rfl⟩
  | b :: bs, h1, k => by
    unfold pickK
    split
    · rename_i x hx
      refine (setK_ok b x _).bind fun h2 hg => (pickK_ok h bs h2 k).mono fun h' hj j => ?_
      rw [hj, hg]
      by_cases c : j ∈ bs ∧ h.get j ≠ none
      · rw [if_pos c, if_pos ⟨by simp [c.1], c.2⟩]
      · rw [if_neg c]
        by_cases e : j = b
        · subst e; rw [if_pos rfl, if_pos ⟨by simp, by rw [hx]; simp⟩, hx]
        · rw [if_neg e, if_neg]
          intro ⟨h3, h4⟩
          rcases List.mem_cons.1 h3 with h3 | h3
          · exact e h3
          · exact c ⟨h3, h4⟩
    · rename_i hx
      refine (pickK_ok h bs h1 k).mono fun h' hj j => ?_
      rw [hj]
      by_cases c : j ∈ bs ∧ h.get j ≠ none
      · rw [if_pos c, if_pos ⟨by simp [c.1], c.2⟩]
      · rw [if_neg c, if_neg]
        intro ⟨h3, h4⟩
        rcases List.mem_cons.1 h3 with h3 | h3
        · subst h3; exact h4 hx
        · exact c ⟨h3, h4⟩
theorem backK_ok (h1 : H) : ∀ (bs : List Nat) (h : H) (k : H → R), Ok1 bad (backK bad h1 bs h k) k fun h' => ∀ j, h'.get j = if j ∈ bs then h1.get j else h.get j
  | [], h, k => .inr ⟨h, fun j => by rw [if_neg (by simp)], rfl⟩
  | b :: bs, h, k => by
    unfold backK
    refine (Tr.get_put 64 h b (h1.get b) _).bind fun h2 hg => (backK_ok h1 bs h2 k).mono fun h' hj j => ?_
    rw [hj, hg]
    by_cases c : j ∈ bs
    · rw [if_pos c, if_pos (by simp [c])]
    · rw [if_neg c]
      by_cases e : j = b
      · subst e; rw [if_pos rfl, if_pos (by simp)]
      · rw [if_neg e, if_neg (by simp [e, c])]
theorem dropK_ok : ∀ (bs : List Nat) (h : H) (k : H → R), Ok1 bad (dropK bad bs h k) k fun h' => ∀ j, h'.get j = if j ∈ bs then none else h.get j
  | [], h, k => .inr ⟨h, fun j => by rw [if_neg (by simp)], rfl⟩
  | b :: bs, h, k => by
    unfold dropK
    split
    · refine (Tr.get_put 64 h b none _).bind fun h2 hg => (dropK_ok bs h2 k).mono fun h' hj j => ?_
      rw [hj, hg]
      by_cases c : j ∈ bs
      · rw [if_pos c, if_pos (by simp [c])]
      · rw [if_neg c]
        by_cases e : j = b
        · subst e; rw [if_pos rfl, if_pos (by simp)]
        · rw [if_neg e, if_neg (by simp [e, c])]
    · rename_i hx
      refine (dropK_ok bs h k).mono fun h' hj j => ?_
      rw [hj]
      by_cases c : j ∈ bs
      · rw [if_pos c, if_pos (by simp [c])]
      · rw [if_neg c]
        by_cases e : j = b
        · subst e; rw [if_pos (by simp), hx]
        · rw [if_neg (by simp [e, c])]
theorem mem_fromTo : ∀ {n lo b : Nat}, b ∈ fromTo n lo ↔ lo ≤ b ∧ b < lo + n
  | 0, lo, b => by simp [fromTo]
  | n + 1, lo, b => by
    rw [fromTo, List.mem_cons, mem_fromTo]
    show _ ∨ (lo + 1 ≤ b ∧ b < lo + 1 + n) ↔ _
    omega
theorem mem_gone {h h1 : H} {b : Nat} : ∀ {bs : List Nat}, b ∈ gone h h1 bs ↔ b ∈ bs ∧ h.get b ≠ none ∧ h1.get b = none
  | [] => by simp [gone]
  | c :: bs => by
    unfold gone
    split
    · rename_i x hx hn
      rw [List.mem_cons, mem_gone, List.mem_cons]
      constructor
      · rintro (e | ⟨e, e2⟩)
        · subst e; exact ⟨.inl rfl, by rw [hx]; simp, hn⟩
        · exact ⟨.inr e, e2⟩
      · rintro ⟨e | e, e2⟩
        · exact .inl e
        · exact .inr ⟨e, e2⟩
    · rename_i hno
      rw [mem_gone, List.mem_cons]
      constructor
      · rintro ⟨e, e2⟩; exact ⟨.inr e, e2⟩
      · rintro ⟨e | e, e2, e3⟩
        · subst e
          cases hb : h.get b with
          | none => exact absurd hb e2
          | some x => exact (hno x hb e3).elim
        · exact ⟨e, e2, e3⟩
theorem bind2 {α β γ : Type} {e : R} {j : α → R} {k : β → γ → R} {A : α → Prop} {Q : β → γ → Prop} (h : Ok1 bad e j A) (hq : ∀ a, A a → Ok2 bad (j a) k Q) : Ok2 bad e k Q := by
  rcases h with h | ⟨a, h1, h2⟩
  · exact .inl h
  · rw [h2]; exact hq a h1
theorem footK_ok (m : Bool) (env : En) (o : Op) (k : List Nat → Bool → R) : Ok2 bad (footK bad m env o k) k fun _ _ => True := by
  have one : ∀ (x : Operand) (ww : Bool), Ok2 bad (eO bad m env x fun v => k (blkV v) ww) k fun _ _ => True := fun x ww => by
    rcases eO_ok m env x (fun v => k (blkV v) ww) with e | ⟨v, _, e⟩
    · exact .inl e
    · exact .inr ⟨_, _, trivial, e⟩
  unfold footK
  split <;> first
    | exact .inr ⟨_, _, trivial, rfl⟩
    | exact one _ _
    | exact .inl rfl
    | skip
  split
  · rename_i c _ b _
    refine bind2 (eOs_ok m env c.args.toList _) fun vs _ => ?_
    split <;> first
      | exact .inr ⟨_, _, trivial, rfl⟩
      | exact .inl rfl
  · exact .inl rfl
theorem dstK_get {k : En → R} {env : En} {d : Option Nat} (v : V) : Ok1 bad (dstK bad env d v k) k fun env' => ∀ t, env'.get t = if d = some t then some v else env.get t := by
  unfold dstK
  cases d with
  | none => exact .inr ⟨env, fun t => by rw [if_neg (by simp)], rfl⟩
  | some d =>
    refine (Tr.get_put 64 env d (some v) k).mono fun env' hg t => ?_
    rw [hg]
    by_cases e : t = d
    · subst e; rw [if_pos rfl, if_pos rfl]
    · rw [if_neg e, if_neg (by simpa using fun h => e h.symm)]
theorem totB_ok {os : List Oper} {i : Nat} (h : totB (rows os) i (mask os i) = true) : Tot os i := by
  intro j o ho hp hj hl
  have := List.all_eq_true.1 h _ (List.mem_of_getElem? (rows_at ho))
  have hb : Nat.beq i j = false := by cases hb : Nat.beq i j with | false => rfl | true => exact absurd (Nat.eq_of_beq_eq_true hb).symm hj
  simp only [hb, hp, cond_false] at this
  rw [hl] at this
  cases this
variable {P : Program} {n fl fd : Nat} {os : List Oper} {s0 : St}
theorem evD_seen {Γ : Ctx} (hΓ : ∀ t ti, Γ.ty.get t = some ti → TyOk P t ti) {C : CallF R} (hC : CallOk bad P C) (hf : fd ≤ fl) (m : Bool) (hS : Slots os) :
    ∀ (r : List (Nat × Nat × Oper)) (i : Nat) (al : List Rec) (T : Nat → D) (st : Nat → St) (k : En → H → Nat → R), (rows os).drop i = r → i ≤ os.length → TOk P n fl fd os s0 T st i → AlOk os T st al i →
      Out bad (evD bad C Γ m fl fd os (rows os) s0.nx r al (st i).env (st i).h (st i).nx k) fun e => ∃ T st, TOk P n fl fd os s0 T st os.length ∧ e = k (st os.length).env (st os.length).h (st os.length).nx
  | [], i, al, T, st, k, hr, hi, hT, hA => by
    have hlen : (rows os).length ≤ i := List.drop_eq_nil_iff.1 hr
    rw [rows_len] at hlen
    have : i = os.length := by omega
    subst this
    exact .inr ⟨T, st, hT, rfl⟩
  | (i', bi, o) :: r, i, al, T, st, k, hr, hi, hT, hA => by
    have hrow : (rows os)[i]? = some (i', bi, o) := by
      have := congrArg (fun l => l[0]?) hr
      simpa [List.getElem?_drop] using this
    have hr' : (rows os).drop (i + 1) = r := by
      have := congrArg (List.drop 1) hr
      simpa [List.drop_drop, Nat.add_comm] using this
    have hlt : i < os.length := by
      rcases Nat.lt_or_ge i os.length with h | h
      · exact h
      · rw [List.getElem?_eq_none (by rw [rows_len]; exact h)] at hrow; cases hrow
    have ho : os[i]? = some o ∧ i' = i ∧ bi = mask os i := by
      have h1 := rows_at (List.getElem?_eq_getElem hlt : os[i]? = some os[i])
      rw [hrow] at h1
      cases h1
      exact ⟨List.getElem?_eq_getElem hlt, rfl, rfl⟩
    obtain ⟨ho, e1, e2⟩ := ho
    subst e1 e2
    have fin : ∀ (d : D) (env1 : En) (h' : H) (nx' : Nat) (al' : List Rec), DOk P n fl fd s0.nx os o (st i') d ⟨env1, h', nx'⟩ →
        (∀ j, j < i' → (T j).tk = true → d.tk = true → Loose os j i' → ∀ b, ((T j).W b → ¬ d.A b) ∧ (d.W b → ¬ (T j).A b)) →
        ((al' = al ∧ (d.tk = true → ∀ b, ¬ d.A b)) ∨ ∃ r, al' = r :: al ∧ r.i = i' ∧ RecD os T st r d (st i') ⟨env1, h', nx'⟩) →
        Out bad (evD bad C Γ m fl fd os (rows os) s0.nx r al' env1 h' nx' k) fun e => ∃ T st, TOk P n fl fd os s0 T st os.length ∧ e = k (st os.length).env (st os.length).h (st os.length).nx := by
      intro d env1 h' nx' al' hd hc hal
      obtain ⟨T', st', h1, h2, h3⟩ := step_ext hT hA hlt (d := d) (s' := ⟨env1, h', nx'⟩) (fun o' ho' => by rw [ho] at ho'; cases ho'; exact hd) hc hal
      have := evD_seen hΓ hC hf m hS r (i' + 1) al' T' st' k hr' (by omega) h1 h2
      rw [h3] at this
      exact this
    have WA : ∀ j, j < i' → ∀ b, (T j).W b → (T j).A b := fun j hj => (hT.ok j hj os[j] (List.getElem?_eq_getElem (by omega))).WA
    have hnx0 : s0.nx ≤ (st i').nx := by
      have := hT.mono (by omega) i' 0 (by omega) (Nat.le_refl _)
      rwa [hT.st0] at this
    have top : ∀ j, j < i' → (st (j + 1)).nx ≤ (st i').nx := fun j hj => hT.mono (by omega) i' (j + 1) (by omega) (Nat.le_refl _)
    unfold evD
    rw [guardK_see]
    refine guardK_ok (fun hw => ?_) fun hw => ?_
    · cases hp : pureB o.op with
      | true =>
        rw [cond_true, evO_see (only_sees (st i').env)]
        rcases evO_ok (env := (st i').env.only (seen1 os o)) (h := .lf) (nx := (st i').nx) (k := fun v _ nx' => okK bad (Nat.beq nx' (st i').nx) (dstK bad (st i').env o.dst v fun env => evD bad C Γ m fl fd os (rows os) s0.nx r al env (st i').h (st i').nx k)) hΓ hC (Nat.le_refl (st i').nx) m o.op with e | ⟨v, h', nx', hm, e⟩
        · exact .inl e
        rw [e]
        refine out_if fun hb => (dstK_get v).out fun env1 henv => ?_
        have hb := Nat.eq_of_beq_eq_true hb
        subst hb
        refine fin ⟨true, v, .lf, h', (st i').nx, (st i').nx, fun _ => False, fun _ => False⟩ env1 _ _ al ?_ (fun _ _ _ _ _ _ => ⟨fun _ h => h, fun h => h.elim⟩) (.inl ⟨rfl, fun _ _ h => h⟩)
        exact {
          grd := hw
          env := fun t => by rw [henv]; rfl
          nxle := Nat.le_refl _
          no := fun h => by cases h
          sem := fun _ ρ a w he hr => hm ρ n a w he hr o.dst o.type o.pos o.after o.guard
          sub := fun _ b B h => by cases h
          pick := fun _ b _ h => h.elim
          WA := fun b h => h
          aft := fun _ b => ⟨fun h => h.elim, fun _ => rfl⟩
          keep := fun _ b _ h => absurd rfl h
          made := fun _ b h1 h2 => absurd h1 (by simp only at h2; omega)
          bfl := .inr hnx0
          bfd := .inr hnx0 }
      | false =>
        rw [cond_false]
        have hnp : ∃ o, os[i']? = some o ∧ pureB o.op = false := ⟨o, ho, hp⟩
        have hun : ∀ j, j < i' → (T j).tk = true → Loose os j i' → ∀ b, (T j).A b → ∃ r ∈ al.filter (fun r => not (ordB i' (mask os i') r.i r.bi)), r.i = j ∧ r ∈ al ∧ RecD os T st r (T j) (st j) (st (j + 1)) := fun j hj h1 h2 b hb => by
          obtain ⟨r, hr, hri⟩ := hA.all j hj h1 ⟨b, hb⟩
          obtain ⟨_, hrec⟩ := hA.recs r hr
          subst hri
          refine ⟨r, List.mem_filter.2 ⟨hr, ?_⟩, rfl, hr, hrec⟩
          have := h2.symm
          unfold Loose at this
          rw [hrec.bi, this]; rfl
        have hnt : ∀ j, j < i' → Loose os j i' → ¬ Tot os j := fun j hj hl ht => ht i' o ho hp (by omega) hl
        cases hcb : callB o.op with
        | true =>
          rw [cond_true]
          cases htb : totB (rows os) i' (mask os i') with
          | true =>
            rw [cond_true, evO_see (only_sees (st i').env)]
            have htot := totB_ok htb
            rcases evO_ok (env := (st i').env.only (seen1 os o)) (h := (st i').h) (nx := (st i').nx) (k := fun v h' nx' => okK bad (Nat.ble (st i').nx nx') (dstK bad (st i').env o.dst v fun env => evD bad C Γ m fl fd os (rows os) s0.nx r (⟨i', mask os i', (st i').nx, Nat.sub nx' (st i').nx, none, []⟩ :: al) env h' nx' k)) hΓ hC hf m o.op with e | ⟨v, h', nx', hm, e⟩
            · exact .inl e
            rw [e]
            refine out_if fun hb => (dstK_get v).out fun env1 henv => ?_
            have hb := Nat.le_of_ble_eq_true hb
            refine fin ⟨true, v, (st i').h, h', fl, fd, fun _ => True, fun _ => True⟩ env1 h' nx' _ ?_ (fun j hj h1 _ h2 b => ?_) (.inr ⟨_, rfl, rfl, rfl, rfl, hnp, rfl, by show (st i').nx + (nx' - (st i').nx) = nx'; omega, .inl htot⟩)
            · exact {
                grd := hw
                env := fun t => by rw [henv]; rfl
                nxle := hb
                no := fun h => by cases h
                sem := fun _ ρ a w he hr => hm ρ n a w he hr o.dst o.type o.pos o.after o.guard
                sub := fun _ b B h => ⟨h, fun _ => trivial⟩
                pick := fun _ b _ h => rfl
                WA := fun b h => h
                aft := fun _ b => ⟨fun h => rfl, fun h => absurd trivial h⟩
                keep := fun _ b _ _ h => absurd trivial h
                made := fun _ b _ _ => trivial
                bfl := .inl (Nat.le_refl _)
                bfd := .inl (Nat.le_refl _) }
            · have hno : ¬ (T j).A b := fun hb => by
                obtain ⟨r, _, hri, _, hrec⟩ := hun j hj h1 h2 b hb
                obtain ⟨o', ho', hp'⟩ := hrec.np
                rw [hri] at ho'
                exact htot j o' ho' hp' (by omega) h2.symm
              exact ⟨fun hW => absurd (WA j hj b hW) hno, fun _ => hno⟩
          | false =>
            rw [cond_false]
            generalize hUn : (al.filter fun r => not (ordB i' (mask os i') r.i r.bi)) = un at hun
            show Out bad (dropK bad (un.map fun r => fromTo r.n r.lo ++ r.wr).flatten (st i').h fun h1 => okK bad (Nat.ble s0.nx (st i').nx) (evO bad C Γ m (st i').nx s0.nx o.op (st i').env h1 (st i').nx fun v h2 nx' =>
              okK bad (two (Nat.ble (st i').nx nx') (un.all (wrOk al (gone h1 h2 (fromTo (Nat.sub (st i').nx s0.nx) s0.nx))))) (backK bad h2 (gone h1 h2 (fromTo (Nat.sub (st i').nx s0.nx) s0.nx) ++ fromTo (Nat.sub nx' (st i').nx) (st i').nx) (st i').h fun h' => dstK bad (st i').env o.dst v fun env => evD bad C Γ m fl fd os (rows os) s0.nx r (⟨i', mask os i', (st i').nx, Nat.sub nx' (st i').nx, none, gone h1 h2 (fromTo (Nat.sub (st i').nx s0.nx) s0.nx)⟩ :: al) env h' nx' k))) _
            generalize hOff : (un.map fun r => fromTo r.n r.lo ++ r.wr).flatten = off
            have moff : ∀ r ∈ un, ∀ b, (b ∈ r.wr ∨ (r.lo ≤ b ∧ b < r.lo + r.n)) → b ∈ off := fun r hr b hb => by
              subst hOff
              refine List.mem_flatten.2 ⟨_, List.mem_map.2 ⟨r, hr, rfl⟩, ?_⟩
              rw [List.mem_append, mem_fromTo]
              exact hb.symm
            have offlt : ∀ b ∈ off, b < (st i').nx := fun b hb => by
              subst hOff
              obtain ⟨l, hl, hbl⟩ := List.mem_flatten.1 hb
              obtain ⟨r, hr, rfl⟩ := List.mem_map.1 hl
              have hr0 := hr
              rw [← hUn, List.mem_filter] at hr
              obtain ⟨hri, hrec⟩ := hA.recs r hr.1
              have hlo : Loose os r.i i' := by
                have := hr.2
                unfold Loose
                rw [ordB_symm, ← hrec.bi]
                simpa using this
              have ht := top r.i hri
              have hhi := hrec.hi
              rw [List.mem_append, mem_fromTo] at hbl
              rcases hrec.A with hx | ⟨x1, x2, _⟩
              · exact absurd hx (hnt r.i hri hlo)
              · rcases hbl with hbl | hbl
                · omega
                · have := x2 b hbl; omega
            refine (dropK_ok off (st i').h _).out fun h1 hg1 => out_if fun _ => ?_
            rw [evO_see (only_sees (st i').env)]
            rcases evO_ok (env := (st i').env.only (seen1 os o)) (h := h1) (nx := (st i').nx) (k := fun v h2 nx' =>
              okK bad (two (Nat.ble (st i').nx nx') (un.all (wrOk al (gone h1 h2 (fromTo (Nat.sub (st i').nx s0.nx) s0.nx))))) (backK bad h2 (gone h1 h2 (fromTo (Nat.sub (st i').nx s0.nx) s0.nx) ++ fromTo (Nat.sub nx' (st i').nx) (st i').nx) (st i').h fun h' => dstK bad (st i').env o.dst v fun env => evD bad C Γ m fl fd os (rows os) s0.nx r (⟨i', mask os i', (st i').nx, Nat.sub nx' (st i').nx, none, gone h1 h2 (fromTo (Nat.sub (st i').nx s0.nx) s0.nx)⟩ :: al) env h' nx' k)) hΓ hC hnx0 m o.op with e | ⟨v, h2, nx', hm, e⟩
            · exact .inl e
            rw [e]
            dsimp only
            generalize hdl : gone h1 h2 (fromTo (Nat.sub (st i').nx s0.nx) s0.nx) = dl
            have mdl : ∀ b, b ∈ dl ↔ (s0.nx ≤ b ∧ b < (st i').nx) ∧ h1.get b ≠ none ∧ h2.get b = none := fun b => by
              subst hdl
              rw [mem_gone, mem_fromTo]
              have : s0.nx + Nat.sub (st i').nx s0.nx = (st i').nx := by show s0.nx + ((st i').nx - s0.nx) = _; omega
              rw [this]
            refine out_if fun hb => (backK_ok h2 _ (st i').h _).out fun h' hg' => (dstK_get v).out fun env1 henv => ?_
            obtain ⟨hb, hwr⟩ := two_t hb
            have hb := Nat.le_of_ble_eq_true hb
            have hnx' : (st i').nx + Nat.sub nx' (st i').nx = nx' := by show (st i').nx + (nx' - (st i').nx) = nx'; omega
            have hg' : ∀ b, h'.get b = if b ∈ dl ∨ ((st i').nx ≤ b ∧ b < nx') then h2.get b else (st i').h.get b := fun b => by
              rw [hg' b]; simp only [List.mem_append, mem_fromTo, hnx']
            refine fin ⟨true, v, h1, h2, (st i').nx, s0.nx, fun b => b ∉ off ∧ b < nx', fun b => b ∈ dl ∨ ((st i').nx ≤ b ∧ b < nx')⟩ env1 h' nx' _ ?_ (fun j hj h1' _ h2' b => ?_) (.inr ⟨_, rfl, rfl, rfl, rfl, hnp, rfl, hnx', .inr ⟨fun b hW => ?_, fun b hW => ?_, fun b hA' => ?_⟩⟩)
            · exact {
                grd := hw
                env := fun t => by rw [henv]; rfl
                nxle := hb
                no := fun h => by cases h
                sem := fun _ ρ a w he hr => hm ρ n a w he hr o.dst o.type o.pos o.after o.guard
                sub := fun _ b B h => by
                  rw [hg1] at h
                  split at h
                  · cases h
                  · rename_i hc; exact ⟨h, fun hlt => ⟨hc, by omega⟩⟩
                pick := fun _ b hlt hW => by
                  rcases hW with hW | hW
                  · have h3 := ((mdl b).1 hW).2.1
                    show h1.get b = _
                    rw [hg1] at h3 ⊢
                    by_cases c : b ∈ off
                    · rw [if_pos c] at h3; exact absurd rfl h3
                    · rw [if_neg c]
                  · omega
                WA := fun b hW => by
                  rcases hW with hW | hW
                  · have h3 := ((mdl b).1 hW)
                    refine ⟨fun c => ?_, by omega⟩
                    have h4 := h3.2.1
                    rw [hg1, if_pos c] at h4
                    exact h4 rfl
                  · exact ⟨fun c => by have := offlt b c; omega, hW.2⟩
                aft := fun _ b => ⟨fun h => by show h'.get b = _; rw [hg', if_pos h], fun h => by show h'.get b = _; rw [hg', if_neg h]⟩
                keep := fun _ b hlt hne hW => ⟨hlt, fun h3 h4 => hW (.inl ((mdl b).2 ⟨⟨h3, hlt⟩, hne, h4⟩))⟩
                made := fun _ b h1 h2 => .inr ⟨h1, h2⟩
                bfl := .inr hnx0
                bfd := .inr (Nat.le_refl _) }
            · have main : ∀ {b}, (T j).A b → ∃ r ∈ al, r ∈ un ∧ r.i = j ∧ RecD os T st r (T j) (st j) (st (j + 1)) := fun hb => by
                obtain ⟨r, hr, hri, hra, hrec⟩ := hun j hj h1' h2' _ hb
                exact ⟨r, hra, hr, hri, hrec⟩
              have ht := top j hj
              constructor
              · intro hW hAi
                obtain ⟨r, hra, hr, hri, hrec⟩ := main (WA j hj b hW)
                rcases hrec.A with hx | ⟨x1, x2, _⟩
                · exact hnt j hj h2' (hri ▸ hx)
                · exact hAi.1 (moff r hr b (x1 b hW))
              · intro hW hAj
                obtain ⟨r, hra, hr, hri, hrec⟩ := main hAj
                have hhi := hrec.hi
                have hnt' : ¬ Tot os r.i := hri ▸ hnt j hj h2'
                rcases hW with y | y
                · have hno : b ∉ off := fun c => by
                    have h4 := ((mdl b).1 y).2.1
                    rw [hg1, if_pos c] at h4
                    exact h4 rfl
                  have := wrOk_no (by omega) hT hA hS hra (List.all_eq_true.1 hwr r hr) hnt' y (fun c => hno (moff r hr b (.inr c)))
                  rw [hri] at this
                  exact this hAj
                · rcases hrec.A with hx | ⟨x1, x2, x3⟩
                  · exact hnt' hx
                  · split at x3
                    · rcases x3.1 b hAj with z | z
                      · have := x3.2 b z
                        have := hrec.lo
                        have := (hT.ok j hj os[j] (List.getElem?_eq_getElem (by omega))).nxle
                        omega
                      · omega
                    · have := (x3 b hAj).1
                      omega
            · rw [hnx']; exact hW
            · rw [hnx']
              have := ((mdl b).1 hW).1
              omega
            · rw [hnx']
              refine ⟨hA'.2, fun q hq hqt hq1 hq2 => ?_⟩
              have hq : q < i' := hq
              cases hbq : bit (mask os i') q with
              | true => rfl
              | false =>
                have hloose : Loose os q i' := by
                  unfold Loose
                  cases hob : ordB q (mask os q) i' (mask os i') with
                  | false => rfl
                  | true =>
                    rcases ordB_iff.1 hob with h3 | h3
                    · rw [hbq] at h3; cases h3
                    · have := hS.low q os[q] (List.getElem?_eq_getElem (by omega)) i' h3
                      omega
                have hWq := (hT.ok q hq os[q] (List.getElem?_eq_getElem (by omega))).made hqt b hq1 hq2
                obtain ⟨r, hr, hri, hra, hrec⟩ := hun q hq hqt hloose b (WA q hq b hWq)
                rcases hrec.A with hx | ⟨x1, x2, _⟩
                · exact absurd (hri ▸ hx) (hnt q hq hloose)
                · exact absurd (moff r hr b (x1 b hWq)) hA'.1
        | false =>
          rw [cond_false]
          refine (footK_ok m (st i').env o.op _).out fun acc ww _ => ?_
          generalize hUn : (al.filter fun r => not (ordB i' (mask os i') r.i r.bi)) = un at hun
          obtain ⟨wr, fl', fd', hwr, hfl', hfd', hff, hbfl, hbfd, hro⟩ : ∃ wr fl' fd', (bif ww then acc else []) = wr ∧ (bif ww then fl else (st i').nx) = fl' ∧ (bif ww then fd else (st i').nx) = fd' ∧ fd' ≤ fl' ∧ (fl ≤ fl' ∨ s0.nx ≤ fl') ∧ (fd ≤ fd' ∨ s0.nx ≤ fd') ∧ (wr = acc ∨ (wr = [] ∧ fl' = (st i').nx ∧ fd' = (st i').nx)) := by
            cases ww with
            | true => exact ⟨_, _, _, rfl, rfl, rfl, hf, .inl (Nat.le_refl _), .inl (Nat.le_refl _), .inl rfl⟩
            | false => exact ⟨_, _, _, rfl, rfl, rfl, Nat.le_refl _, .inr hnx0, .inr hnx0, .inr ⟨rfl, rfl, rfl⟩⟩
          show Out bad (okK bad (two (acc.all fun b => Nat.blt b (st i').nx) (two (un.all (accOk acc)) (un.all (wrOk al (bif ww then acc else []))))) (pickK bad (st i').h acc .lf fun h1 => evO bad C Γ m (bif ww then fl else (st i').nx) (bif ww then fd else (st i').nx) o.op (st i').env h1 (st i').nx fun v h2 nx' =>
            okK bad (Nat.ble (st i').nx nx') (backK bad h2 ((bif ww then acc else []) ++ fromTo (Nat.sub nx' (st i').nx) (st i').nx) (st i').h fun h' => dstK bad (st i').env o.dst v fun env => evD bad C Γ m fl fd os (rows os) s0.nx r (⟨i', mask os i', (st i').nx, Nat.sub nx' (st i').nx, some acc, bif ww then acc else []⟩ :: al) env h' nx' k))) _
          rw [hwr, hfl', hfd']
          refine out_if fun hb => (pickK_ok (st i').h acc .lf _).out fun h1 hg1 => ?_
          rw [evO_see (only_sees (st i').env)]
          rcases evO_ok (env := (st i').env.only (seen1 os o)) (h := h1) (nx := (st i').nx) (k := fun v h2 nx' =>
            okK bad (Nat.ble (st i').nx nx') (backK bad h2 (wr ++ fromTo (Nat.sub nx' (st i').nx) (st i').nx) (st i').h fun h' => dstK bad (st i').env o.dst v fun env => evD bad C Γ m fl fd os (rows os) s0.nx r (⟨i', mask os i', (st i').nx, Nat.sub nx' (st i').nx, some acc, wr⟩ :: al) env h' nx' k)) hΓ hC hff m o.op with e | ⟨v, h2, nx', hm, e⟩
          · exact .inl e
          rw [e]
          obtain ⟨hac, hb⟩ := two_t hb
          obtain ⟨hao, hwo⟩ := two_t hb
          have hac : ∀ b ∈ acc, b < (st i').nx := fun b hb => blt_t (List.all_eq_true.1 hac b hb)
          have hwa : ∀ b ∈ wr, b ∈ acc := fun b hb => by
            rcases hro with e | ⟨e, _⟩
            · rw [← e]; exact hb
            · rw [e] at hb; cases hb
          have hg1 : ∀ j, h1.get j = if j ∈ acc then (st i').h.get j else none := fun j => by
            rw [hg1]
            by_cases c : j ∈ acc
            · by_cases c2 : (st i').h.get j = none
              · rw [if_neg (by simp [c2]), if_pos c, c2]; rfl
              · rw [if_pos ⟨c, c2⟩, if_pos c]
            · rw [if_neg (by simp [c]), if_neg c]; rfl
          refine out_if fun hb => (backK_ok h2 _ (st i').h _).out fun h' hg' => (dstK_get v).out fun env1 henv => ?_
          have hb := Nat.le_of_ble_eq_true hb
          have hnx' : (st i').nx + Nat.sub nx' (st i').nx = nx' := by show (st i').nx + (nx' - (st i').nx) = nx'; omega
          have hg' : ∀ b, h'.get b = if b ∈ wr ∨ ((st i').nx ≤ b ∧ b < nx') then h2.get b else (st i').h.get b := fun b => by
            rw [hg' b]; simp only [List.mem_append, mem_fromTo, hnx']
          refine fin ⟨true, v, h1, h2, fl', fd', fun b => b ∈ acc ∨ ((st i').nx ≤ b ∧ b < nx'), fun b => b ∈ wr ∨ ((st i').nx ≤ b ∧ b < nx')⟩ env1 h' nx' _ ?_ (fun j hj h1' _ h2' b => ?_) (.inr ⟨_, rfl, rfl, rfl, rfl, hnp, rfl, hnx', .inr ⟨fun b hW => ?_, fun b hW => ?_, fun b hA' => ?_, fun b hbl => hac b hbl⟩⟩)
          · exact {
              grd := hw
              env := fun t => by rw [henv]; rfl
              nxle := hb
              no := fun h => by cases h
              sem := fun _ ρ a w he hr => hm ρ n a w he hr o.dst o.type o.pos o.after o.guard
              sub := fun _ b B h => by
                rw [hg1] at h
                split at h
                · rename_i hc; exact ⟨h, fun _ => .inl hc⟩
                · cases h
              pick := fun _ b hlt hW => by
                rcases hW with hW | hW
                · show h1.get b = _
                  rw [hg1, if_pos (hwa b hW)]
                · omega
              WA := fun b h => h.imp (hwa b) id
              aft := fun _ b => ⟨fun h => by show h'.get b = _; rw [hg', if_pos h], fun h => by show h'.get b = _; rw [hg', if_neg h]⟩
              keep := fun _ b hlt hne hW => by
                have hba : b ∈ acc := by
                  have hne : h1.get b ≠ none := hne
                  rw [hg1] at hne
                  by_cases c : b ∈ acc
                  · exact c
                  · rw [if_neg c] at hne; exact absurd rfl hne
                rcases hro with e | ⟨_, e1, e2⟩
                · exact absurd (.inl (e ▸ hba)) hW
                · show b < fl' ∧ (fd' ≤ b → _)
                  rw [e1, e2]
                  exact ⟨hlt, fun h => by omega⟩
              made := fun _ b h1 h2 => .inr ⟨h1, h2⟩
              bfl := hbfl
              bfd := hbfd }
          · have main : ∀ {b}, (T j).A b → ∃ r ∈ al, r ∈ un ∧ r.i = j ∧ RecD os T st r (T j) (st j) (st (j + 1)) := fun hb => by
              obtain ⟨r, hr, hri, hra, hrec⟩ := hun j hj h1' h2' _ hb
              exact ⟨r, hra, hr, hri, hrec⟩
            have ht := top j hj
            constructor
            · intro hW hAi
              obtain ⟨r, hra, hr, hri, hrec⟩ := main (WA j hj b hW)
              rcases hrec.A with hx | ⟨x1, x2, _⟩
              · exact hnt j hj h2' (hri ▸ hx)
              · have hhi := hrec.hi
                have hacc := accOk_iff (List.all_eq_true.1 hao r hr)
                rcases x1 b hW with y | y
                · rcases hAi with z | z
                  · exact (hacc b z).1 y
                  · have := x2 b y; omega
                · rcases hAi with z | z
                  · exact (hacc b z).2 y
                  · omega
            · intro hW hAj
              obtain ⟨r, hra, hr, hri, hrec⟩ := main hAj
              have hhi := hrec.hi
              have hacc := accOk_iff (List.all_eq_true.1 hao r hr)
              have hnt' : ¬ Tot os r.i := hri ▸ hnt j hj h2'
              rcases hW with y | y
              · have := wrOk_no (by omega) hT hA hS hra (List.all_eq_true.1 hwo r hr) hnt' y (hacc b (hwa b y)).2
                rw [hri] at this
                exact this hAj
              · rcases hrec.A with hx | ⟨x1, x2, x3⟩
                · exact hnt' hx
                · split at x3
                  · rcases x3.1 b hAj with z | z
                    · have := x3.2 b z
                      have := hrec.lo
                      have := (hT.ok j hj os[j] (List.getElem?_eq_getElem (by omega))).nxle
                      omega
                    · omega
                  · have := (x3 b hAj).1
                    omega
          · rw [hnx']; exact hW
          · rw [hnx']
            have := hac b (hwa b hW)
            omega
          · rw [hnx']; exact hA'
    · refine (dstK_get .undef).out fun env1 henv => fin ⟨false, .undef, .lf, .lf, fl, fd, fun _ => False, fun _ => False⟩ env1 _ _ al ?_ (fun _ _ _ h => by cases h) (.inl ⟨rfl, fun _ _ h => h⟩)
      exact {
        grd := hw
        env := fun t => by rw [henv]; rfl
        nxle := Nat.le_refl _
        no := fun _ => ⟨rfl, rfl⟩
        sem := fun h => by cases h
        sub := fun h => by cases h
        pick := fun h => by cases h
        WA := fun b h => h
        aft := fun h => by cases h
        keep := fun h => by cases h
        made := fun h => by cases h
        bfl := .inl (Nat.le_refl _)
        bfd := .inl (Nat.le_refl _) }
end
end Go.E
