/-
  S, tenth text: regions whose order is open.
-/
import Derived.Test.YtbecokebaikhaaaGreatSi
namespace Go.S
open Go Go.E
set_option linter.unusedVariables false
set_option linter.unusedSimpArgs false
variable {Γ : Ctx}

/-- One step of a drawn region, as E has it. -/
def stepD (C : CallF Bool) (Γ : Ctx) (fl fd : Nat) (os : List Oper) (rs : List (Nat × Nat × Oper)) (nx0 : Nat) (i bi : Nat) (o : Oper) (al : List Rec) (env : En) (h : H) (nx : Nat) (K : En → H → Nat → List Rec → Bool) : Bool :=
  bif pureB o.op then evO false C Γ true nx nx o.op env .lf nx (fun v _ nx' => okK false (Nat.beq nx' nx) (dstK false env o.dst v fun env => K env h nx al))
       else bif callB o.op then
         (bif totB rs i bi then evO false C Γ true fl fd o.op env h nx (fun v h' nx' => okK false (Nat.ble nx nx') (dstK false env o.dst v fun env => K env h' nx' (⟨i, bi, nx, Nat.sub nx' nx, none, []⟩ :: al)))
          else
            let un := al.filter fun r => not (ordB i bi r.i r.bi)
            let off := (un.map fun r => fromTo r.n r.lo ++ r.wr).flatten
            dropK false off h fun h1 => okK false (Nat.ble nx0 nx) (evO false C Γ true nx nx0 o.op env h1 nx fun v h2 nx' =>
              let dl := gone h1 h2 (fromTo (Nat.sub nx nx0) nx0)
              okK false (two (Nat.ble nx nx') (un.all (wrOk al dl))) (backK false h2 (dl ++ fromTo (Nat.sub nx' nx) nx) h fun h' => dstK false env o.dst v fun env => K env h' nx' (⟨i, bi, nx, Nat.sub nx' nx, none, dl⟩ :: al))))
       else footK false true env o.op fun acc ww =>
         let un := al.filter fun r => not (ordB i bi r.i r.bi)
         let wr := bif ww then acc else []
         okK false (two (acc.all fun b => Nat.blt b nx) (two (un.all (accOk acc)) (un.all (wrOk al wr)))) (pickK false h acc .lf fun h1 => evO false C Γ true (bif ww then fl else nx) (bif ww then fd else nx) o.op env h1 nx fun v h2 nx' =>
           okK false (Nat.ble nx nx') (backK false h2 (wr ++ fromTo (Nat.sub nx' nx) nx) h fun h' => dstK false env o.dst v fun env => K env h' nx' (⟨i, bi, nx, Nat.sub nx' nx, some acc, wr⟩ :: al)))
theorem evD_cons (C : CallF Bool) (Γ : Ctx) (fl fd : Nat) (os : List Oper) (rs : List (Nat × Nat × Oper)) (nx0 : Nat) (i bi : Nat) (o : Oper) (r : List (Nat × Nat × Oper)) (al : List Rec) (env : En) (h : H) (nx : Nat) (k : En → H → Nat → Bool) :
    evD false C Γ true fl fd os rs nx0 ((i, bi, o) :: r) al env h nx k = guardK false os env o.guard (stepD C Γ fl fd os rs nx0 i bi o al env h nx fun env h nx al => evD false C Γ true fl fd os rs nx0 r al env h nx k)
      (dstK false env o.dst .undef fun env => evD false C Γ true fl fd os rs nx0 r al env h nx k) := by
  rw [evD]; rfl
def SimSt (Γ : Ctx) (a : DrF) (os : List Oper) (rs : List (Nat × Nat × Oper)) (i bi : Nat) (o : Oper) : Prop := ∀ C C' fl fd n0 e env h nx al (k : E2 → M2 → List Rec → Bool) (K : En → H → Nat → List Rec → Bool), CallS C C' → EnvS e env →
  (∀ e env h nx al, EnvS e env → k e (.mk h nx) al = true → K env h nx al = true) → a (.mk C fl fd) n0 e (.mk h nx) al k = true → stepD C' Γ fl fd os rs n0 i bi o al env h nx K = true

theorem dPu_ok {os : List Oper} {rs : List (Nat × Nat × Oper)} {i bi : Nat} {o : Oper} {f : OpF} {p : PV} (hf : SimOp Γ f o.op) (hp : SimP p o.dst) (hb : pureB o.op = true) : SimSt Γ (dPu f p) os rs i bi o := by
  intro C C' fl fd n0 e env h nx al k K hC he hk H
  unfold stepD
  rw [hb, cond_true]
  refine hf C C' nx nx e env .lf nx _ _ hC he (fun v h' nx' H => ?_) H
  obtain ⟨h1, H⟩ := iF_t H
  obtain ⟨e', env', e1, he', H⟩ := hp e env v _ he H
  rw [h1, okK, cond_true, e1]
  exact hk _ _ _ _ _ he' H
theorem dTo_ok {os : List Oper} {rs : List (Nat × Nat × Oper)} {i bi : Nat} {o : Oper} {f : OpF} {p : PV} (hf : SimOp Γ f o.op) (hp : SimP p o.dst) (hb : pureB o.op = false) (hc : callB o.op = true) (ht : totB rs i bi = true) : SimSt Γ (dTo i bi f p) os rs i bi o := by
  intro C C' fl fd n0 e env h nx al k K hC he hk H
  unfold stepD
  rw [hb, cond_false, hc, cond_true, ht, cond_true]
  refine hf C C' fl fd e env h nx _ _ hC he (fun v h' nx' H => ?_) H
  obtain ⟨h1, H⟩ := iF_t H
  obtain ⟨e', env', e1, he', H⟩ := hp e env v _ he H
  rw [h1, okK, cond_true, e1]
  exact hk _ _ _ _ _ he' H
theorem drop_par : ∀ (l : List Nat) (h : H), Par fun k => dropK false l h k
  | [], h => Par.pure h
  | b :: bs, h => by
    unfold dropK
    split
    · exact (put_par 64 h b none).bind (G := fun h k => dropK false bs h k) fun h => drop_par bs h
    · exact drop_par bs h
theorem pick_par (h : H) : ∀ (l : List Nat) (h1 : H), Par fun k => pickK false h l h1 k
  | [], h1 => Par.pure h1
  | b :: bs, h1 => by
    unfold pickK
    split
    · rename_i x hx; exact (put_par 64 h1 b (some x)).bind (G := fun h1 k => pickK false h bs h1 k) fun h1 => pick_par h bs h1
    · exact pick_par h bs h1
theorem back_par (h1 : H) : ∀ (l : List Nat) (h : H), Par fun k => backK false h1 l h k
  | [], h => Par.pure h
  | b :: bs, h => (put_par 64 h b (h1.get b)).bind (G := fun h k => backK false h1 bs h k) fun h => back_par h1 bs h
theorem get_some {α : Type} (t : Tr α) (b : Nat) : tG none t b some = t.get b := by
  rw [tG_eq]; cases t.get b <;> rfl
theorem piR_eq (h : H) : ∀ (l : List Nat) (h1 : H) (k : H → Bool), piR h l h1 k = pickK false h l h1 k
  | [], h1, k => rfl
  | b :: bs, h1, k => by
    have e : piR h (b :: bs) h1 k = Option.rec (motive := fun _ => Bool) (piR h bs h1 k) (fun x => tP 64 h1 b (some x) fun h1 => piR h bs h1 k) (tG none h b some) := rfl
    rw [e, get_some]
    unfold pickK
    cases h.get b with
    | none => exact piR_eq h bs h1 k
    | some x =>
      show tP 64 h1 b (some x) (fun h1 => piR h bs h1 k) = setK false h1 b x fun h1 => pickK false h bs h1 k
      rw [tP_eq]
      simp only [piR_eq h bs]
      rfl
theorem baR_eq (h1 : H) : ∀ (l : List Nat) (h : H) (k : H → Bool), baR h1 l h k = backK false h1 l h k
  | [], h, k => rfl
  | b :: bs, h, k => by
    have e : baR h1 (b :: bs) h k = tP 64 h b (tG none h1 b some) fun h => baR h1 bs h k := rfl
    rw [e, get_some, tP_eq]
    simp only [baR_eq h1 bs]
    rfl
theorem frR_eq : ∀ (n lo : Nat), frR n lo = fromTo n lo
  | 0, lo => rfl
  | n + 1, lo => by
    have e : frR (n + 1) lo = lo :: frR n (Nat.succ lo) := rfl
    rw [e, frR_eq]; rfl
theorem allR_eq {α : Type} (p : α → Bool) : ∀ l : List α, allR p l = l.all p
  | [] => rfl
  | x :: l => by
    have e : allR p (x :: l) = iF (p x) (allR p l) false := rfl
    rw [e, allR_eq, iF_eq, List.all_cons]
    cases p x <;> rfl
theorem unl_eq (i bi : Nat) : ∀ al : List Rec, unl i bi al = al.filter fun r => not (ordB i bi r.i r.bi)
  | [] => rfl
  | r :: al => by
    have e : unl i bi (r :: al) = iF (odR i bi r.i r.bi) (unl i bi al) (r :: unl i bi al) := by cases r; rfl
    have e2 : odR i bi r.i r.bi = ordB i bi r.i r.bi := by unfold odR; rw [iF_eq]; rfl
    rw [e, e2, unl_eq, iF_eq]
    cases hb : ordB i bi r.i r.bi with
    | true => rw [List.filter_cons_of_neg (by simp [hb])]; rfl
    | false => rw [List.filter_cons_of_pos (by simp [hb])]; rfl
theorem dFr_ok {os : List Oper} {rs : List (Nat × Nat × Oper)} {i bi : Nat} {o : Oper} {f : OpF} {p : PV} (hf : SimOp Γ f o.op) (hp : SimP p o.dst) (hb : pureB o.op = false) (hc : callB o.op = true) (ht : totB rs i bi = false) : SimSt Γ (dFr i bi f p) os rs i bi o := by
  intro C C' fl fd n0 e env h nx al k K hC he hk H
  unfold stepD
  rw [hb, cond_false, hc, cond_true, ht, cond_false]
  obtain ⟨h1, e1, H⟩ := (drop_par _ h).t H
  obtain ⟨h2, H⟩ := iF_t H
  dsimp only
  rw [e1, h2, okK, cond_true]
  refine hf C C' nx n0 e env h1 nx _ _ hC he (fun v h' nx' H => ?_) H
  obtain ⟨h3, H⟩ := iF_t H
  obtain ⟨h4, H⟩ := iF_t H
  obtain ⟨h5, e2, H⟩ := (back_par _ _ h).t H
  obtain ⟨e', env', e3, he', H⟩ := hp e env v _ he H
  rw [two_t, h3, cond_true, h4, okK, cond_true, e2, e3]
  exact hk _ _ _ _ _ he' H
def SimFt (ft : FtF) (ww : Bool) (o : Op) : Prop := ∀ e env (k : List Nat → Bool), EnvS e env → ft e k = true → ∃ l, (∀ k' : List Nat → Bool → Bool, footK false true env o k' = k' l ww) ∧ k l = true
theorem bkR_eq (a : A) (k : List Nat → Bool) : bkR a k = k (blkOf a) := by cases a <;> rfl
theorem foot_ok {α : Type} {o : Op} {k : FtF → Bool → Cl α} {x : α} (h : footC o k = .mk x) : ∃ ft ww, SimFt ft ww o ∧ k ft ww = .mk x := by
  have h0 : ∀ o : Op, (∀ env (k' : List Nat → Bool → Bool), footK false true env o k' = k' [] false) → SimFt ft0 false o := fun o ho e env k he H => ⟨[], fun k' => ho env k', H⟩
  have h1 : ∀ (o : Op) (y : Operand) (g : GA) (w : Bool), (∀ env (k' : List Nat → Bool → Bool), footK false true env o k' = eO false true env y fun v => k' (blkV v) w) → SimA g y → SimFt (ft1 g) w o := by
    intro o y g w ho hg e env k he H
    obtain ⟨a, e1, _, H⟩ := hg e env _ he H
    rw [bkR_eq] at H
    exact ⟨_, fun k' => by rw [ho, e1]; rfl, H⟩
  unfold footC at h
  split at h
  · exact ⟨_, _, h0 _ fun _ _ => rfl, h⟩
  · exact ⟨_, _, h0 _ fun _ _ => rfl, h⟩
  · exact ⟨_, _, h0 _ fun _ _ => rfl, h⟩
  · exact ⟨_, _, h0 _ fun _ _ => rfl, h⟩
  · exact ⟨_, _, h0 _ fun _ _ => rfl, h⟩
  · obtain ⟨g, h2, h⟩ := Cl.go_mk h; exact ⟨_, _, h1 _ _ _ _ (fun _ _ => rfl) (aC_ok h2), h⟩
  · obtain ⟨g, h2, h⟩ := Cl.go_mk h; exact ⟨_, _, h1 _ _ _ _ (fun _ _ => rfl) (aC_ok h2), h⟩
  · obtain ⟨g, h2, h⟩ := Cl.go_mk h; exact ⟨_, _, h1 _ _ _ _ (fun _ _ => rfl) (aC_ok h2), h⟩
  · obtain ⟨g, h2, h⟩ := Cl.go_mk h; exact ⟨_, _, h1 _ _ _ _ (fun _ _ => rfl) (aC_ok h2), h⟩
  · obtain ⟨g, h2, h⟩ := Cl.go_mk h; exact ⟨_, _, h1 _ _ _ _ (fun _ _ => rfl) (aC_ok h2), h⟩
  · obtain ⟨g, h2, h⟩ := Cl.go_mk h; exact ⟨_, _, h1 _ _ _ _ (fun _ _ => rfl) (aC_ok h2), h⟩
  · obtain ⟨g, h2, h⟩ := Cl.go_mk h; exact ⟨_, _, h1 _ _ _ _ (fun _ _ => rfl) (aC_ok h2), h⟩
  · obtain ⟨g, h2, h⟩ := Cl.go_mk h; exact ⟨_, _, h1 _ _ _ _ (fun _ _ => rfl) (aC_ok h2), h⟩
  · rename_i c
    have hbi : ∀ b, c.callee = .builtin b → ∀ env (k' : List Nat → Bool → Bool), footK false true env (.call c) k' = eOs false true env c.args.toList fun vs => match b with
        | .len => k' ((vs.map blkV).flatten) false
        | .append | .copy | .delete | .clear => k' ((vs.map blkV).flatten) true
        | _ => false := by
      intro b hc env k'
      simp only [footK, hc]
      rfl
    split at h
    · rename_i x hc ha
      obtain ⟨g, h2, h⟩ := Cl.go_mk h
      refine ⟨_, _, fun e env k he H => ?_, h⟩
      obtain ⟨a, e1, _, H⟩ := aC_ok h2 e env _ he H
      rw [bkR_eq] at H
      refine ⟨_, fun k' => ?_, H⟩
      rw [hbi _ hc, ha, eOs_one e1]
      show k' (([V.at a].map blkV).flatten) false = _
      simp [blkV]
    · rename_i x y hc ha
      obtain ⟨g, h2, h⟩ := Cl.go_mk h
      obtain ⟨g', h3, h⟩ := Cl.go_mk h
      refine ⟨_, _, fun e env k he H => ?_, h⟩
      obtain ⟨a, e1, _, H⟩ := aC_ok h2 e env _ he H
      obtain ⟨b, e2, _, H⟩ := aC_ok h3 e env _ he H
      rw [bkR_eq, bkR_eq] at H
      refine ⟨_, fun k' => ?_, H⟩
      rw [hbi _ hc, ha, eOs_two e1 e2]
      show k' (([V.at a, V.at b].map blkV).flatten) true = _
      simp [blkV]
    · rename_i x y hc ha
      obtain ⟨g, h2, h⟩ := Cl.go_mk h
      obtain ⟨g', h3, h⟩ := Cl.go_mk h
      refine ⟨_, _, fun e env k he H => ?_, h⟩
      obtain ⟨a, e1, _, H⟩ := aC_ok h2 e env _ he H
      obtain ⟨b, e2, _, H⟩ := aC_ok h3 e env _ he H
      rw [bkR_eq, bkR_eq] at H
      refine ⟨_, fun k' => ?_, H⟩
      rw [hbi _ hc, ha, eOs_two e1 e2]
      show k' (([V.at a, V.at b].map blkV).flatten) true = _
      simp [blkV]
    · cases h
  · cases h
theorem dMe_ok {os : List Oper} {rs : List (Nat × Nat × Oper)} {i bi : Nat} {o : Oper} {ww : Bool} {ft : FtF} {f : OpF} {p : PV} (hf : SimOp Γ f o.op) (hp : SimP p o.dst) (hb : pureB o.op = false) (hc : callB o.op = false) (hft : SimFt ft ww o.op) : SimSt Γ (dMe i bi ww ft f p) os rs i bi o := by
  intro C C' fl fd n0 e env h nx al k K hC he hk H
  unfold stepD
  rw [hb, cond_false, hc, cond_false]
  obtain ⟨acc, e1, H⟩ := hft e env _ he H
  rw [e1]
  have H : (fun un wr => iF (allR (fun b => Nat.ble (Nat.succ b) nx) acc) (iF (allR (accOk acc) un) (iF (allR (wrOk al wr) un) (piR h acc .lf fun h1 =>
    f (.mk C (iF ww fl nx) (iF ww fd nx)) e (.mk h1 nx) fun v m2 => mH m2 fun h2 nx' => iF (Nat.ble nx nx') (baR h2 (wr ++ frR (Nat.sub nx' nx) nx) h fun h' => p e v fun e => k e (.mk h' nx') (⟨i, bi, nx, Nat.sub nx' nx, some acc, wr⟩ :: al)) false) false) false) false)
    (unl i bi al) (iF ww acc []) = true := H
  rw [unl_eq, iF_eq ww acc []] at H
  dsimp only at H ⊢
  obtain ⟨h1, H⟩ := iF_t H
  obtain ⟨h2, H⟩ := iF_t H
  obtain ⟨h3, H⟩ := iF_t H
  rw [allR_eq] at h1 h2 h3
  rw [piR_eq] at H
  obtain ⟨h4, e2, H⟩ := (pick_par h acc .lf).t H
  rw [show (acc.all fun b => Nat.blt b nx) = true from h1, h2, h3, show okK false (two true (two true true)) = fun (k : Bool) => k from rfl]
  dsimp only
  rw [e2]
  rw [iF_eq ww fl nx, iF_eq ww fd nx] at H
  refine hf C C' _ _ e env h4 nx _ _ hC he (fun v h' nx' H => ?_) H
  obtain ⟨h5, H⟩ := iF_t H
  rw [baR_eq, frR_eq] at H
  obtain ⟨h6, e3, H⟩ := (back_par _ _ h).t H
  obtain ⟨e', env', e4, he', H⟩ := hp e env v _ he H
  rw [h5, okK, cond_true, e3, e4]
  exact hk _ _ _ _ _ he' H
def SimD (Γ : Ctx) (a : DrF) (os : List Oper) (rs r : List (Nat × Nat × Oper)) : Prop := ∀ C C' fl fd n0 e env h nx al (k : E2 → M2 → List Rec → Bool) (k' : En → H → Nat → Bool), CallS C C' → EnvS e env →
  (∀ e env h nx al, EnvS e env → k e (.mk h nx) al = true → k' env h nx = true) → a (.mk C fl fd) n0 e (.mk h nx) al k = true → evD false C' Γ true fl fd os rs n0 r al env h nx k' = true
theorem drwC_ok {os : List Oper} {rs : List (Nat × Nat × Oper)} : ∀ {r : List (Nat × Nat × Oper)} {f : DrF}, drwC Γ os rs r = .mk f → SimD Γ f os rs r
  | [], f, h => by
    cases h
    intro C C' fl fd n0 e env h nx al k k' hC he hk H
    exact hk _ _ _ _ _ he H
  | (i, bi, o) :: r, f, h => by
    unfold drwC at h
    obtain ⟨g, h1, h⟩ := Cl.go_mk h
    obtain ⟨p, h2, h⟩ := Cl.go_mk h
    rw [nK_eq, nK_eq] at h
    obtain ⟨a, h3, h⟩ := Cl.go_mk h
    obtain ⟨a', h4, h⟩ := Cl.go_mk h
    obtain ⟨b, h5, h⟩ := Cl.go_mk h
    cases h
    have hop := opB_ok h1
    have hp := dC_ok h2
    have hr := drwC_ok h5
    have hst : SimSt Γ a os rs i bi o := by
      rcases iF_mk2 h3 with ⟨hb, h3⟩ | ⟨hb, h3⟩
      · cases h3; exact dPu_ok hop hp hb
      · rcases iF_mk2 h3 with ⟨hc, h3⟩ | ⟨hc, h3⟩
        · rcases iF_mk2 h3 with ⟨ht, h3⟩ | ⟨ht, h3⟩
          · cases h3; exact dTo_ok hop hp hb hc ht
          · cases h3; exact dFr_ok hop hp hb hc ht
        · cases hf : footC o.op fun ft ww => .mk (dMe i bi ww ft g p) with
          | no => rw [hf] at h3; cases h3; intro C C' fl fd n0 e env h nx al k K hC he hk H; cases H
          | mk d =>
            rw [hf] at h3
            cases h3
            obtain ⟨ft, ww, hft, h6⟩ := foot_ok hf
            cases h6
            exact dMe_ok hop hp hb hc hft
    clear h3
    intro C C' fl fd n0 e env h nx al k k' hC he hk H
    rw [evD_cons]
    have yes : a (.mk C fl fd) n0 e (.mk h nx) al (fun e m al => b (.mk C fl fd) n0 e m al k) = true → stepD C' Γ fl fd os rs n0 i bi o al env h nx (fun env h nx al => evD false C' Γ true fl fd os rs n0 r al env h nx k') = true := by
      intro H
      exact hst C C' fl fd n0 e env h nx al _ _ hC he (fun e env h nx al he H => hr C C' fl fd n0 e env h nx al k k' hC he hk H) H
    rcases gdC_mk h4 with ⟨hg, h4⟩ | ⟨gb, w, hg, h4⟩
    · cases h4
      rw [hg]
      exact yes H
    · cases h4
      refine hg e env _ _ _ _ he yes (fun H => ?_) H
      obtain ⟨e', env', e1, he', H⟩ := hp e env _ _ he H
      rw [e1]
      exact hr C C' fl fd n0 e' env' _ nx al k k' hC he' hk H
end Go.S
