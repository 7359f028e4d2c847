/-
  S, eighth text: Go's own functions, calls; whatever operation is compiled.
-/
import Derived.Test.YtbecokebaikhaaaGreatSg
namespace Go.S
open Go Go.E
set_option linter.unusedVariables false
set_option linter.unusedSimpArgs false
variable {Γ : Ctx}

theorem evO_bi {C : CallF Bool} {m : Bool} {fl fd : Nat} {c : Call} {b : Builtin} (hc : c.callee = .builtin b) (env : En) (h : H) (nx : Nat) (k : V → H → Nat → Bool) :
    evO false C Γ m fl fd (.call c) env h nx k = eOs false m env c.args.toList fun vs => builtinK false Γ m fl fd b c.argTypes.toList vs h nx k := by
  simp only [evO, hc]
theorem evO_va {C : CallF Bool} {m : Bool} {fl fd : Nat} {c : Call} {x : Operand} (hc : c.callee = .value x) (env : En) (h : H) (nx : Nat) (k : V → H → Nat → Bool) :
    evO false C Γ m fl fd (.call c) env h nx k = eA false m env x fun f => match f with
      | .fn (.func g) fs cs => eOs false m env c.args.toList fun vs => C fl fd g (atL fs ++ (vs ++ atL cs)) h nx k
      | _ => false := by
  simp only [evO, hc]
  rfl
theorem eOs_one {env : En} {x : Operand} {v : V} (e1 : ∀ k' : V → Bool, eO false true env x k' = k' v) (k : List V → Bool) : eOs false true env [x] k = k [v] := by
  unfold eOs; rw [e1]; rfl
theorem eOs_two {env : En} {x y : Operand} {v w : V} (e1 : ∀ k' : V → Bool, eO false true env x k' = k' v) (e2 : ∀ k' : V → Bool, eO false true env y k' = k' w) (k : List V → Bool) : eOs false true env [x, y] k = k [v, w] := by
  unfold eOs; rw [e1]; unfold eOs; rw [e2]; rfl
theorem ln_sim {c : Call} {x : Operand} {t : TypeId} {ts : List TypeId} {ti : TI} {s : Bool} {g : GA} (hc : c.callee = .builtin .len) (ha : c.args.toList = [x]) (hts : c.argTypes.toList = t :: ts) (ht : ∀ k' : TI → Bool, tyK false Γ t k' = k' ti)
    (hti : (s = true ∧ ∃ e, ti.k = .sl e) ∨ (s = false ∧ ti.k = .str)) (hg : SimA g x) : SimOp Γ (lnF s g) (.call c) := by
  intro C C' fl fd e env h nx k k' hC he hk H
  obtain ⟨a, e1, _, H⟩ := hg e env _ he H
  rw [evO_bi hc, ha, eOs_one e1, hts]
  show (tyK false Γ t fun ti => match ti.k with
      | .ar n _ => intLen true n h nx false k'
      | .pt e => tyK false Γ e fun te => (match te.k with | .ar n _ => intLen true n h nx false k' | _ => false)
      | tk => atK false (V.at a) fun a => match lenT tk a with | some n => intLen true n h nx false k' | none => false) = true
  rw [ht]
  have hlen : ∀ n, (iF (Nat.ble (Nat.succ n) 9223372036854775808) (k (.at (.int .i64 n)) (.mk h nx)) false) = true → intLen true n h nx false k' = true := by
    intro n H
    obtain ⟨h1, H⟩ := iF_t H
    unfold intLen
    rw [show Nat.blt n 9223372036854775808 = true from h1, natK_eq]; exact hk _ _ _ H
  rcases hti with ⟨rfl, et, hti⟩ | ⟨rfl, hti⟩
  · rw [hti]
    rcases aS_t H with ⟨b, o, n, c, rfl, H⟩ | ⟨b, o, n, z', rfl, H⟩ | ⟨rfl, H⟩ | ⟨_, _, rfl, H⟩
    · exact hlen _ H
    · exact hlen _ H
    · show intLen true 0 h nx false k' = true
      unfold intLen
      rw [natK_eq]; exact hk _ _ _ H
    · cases H
  · rw [hti]
    rcases aS_t H with ⟨b, o, n, c, rfl, H⟩ | ⟨b, o, n, z', rfl, H⟩ | ⟨rfl, H⟩ | ⟨n, s, rfl, H⟩
    · cases H
    · cases H
    · cases H
    · exact hlen _ H
theorem lnR_t {a : A} {k : Nat → Bool} (H : lnR a k = true) : ∃ n, (∀ k' : Nat → Bool, lenA false a k' = k' n) ∧ k n = true := by
  rcases aS_t H with ⟨b, o, n, c, rfl, H⟩ | ⟨b, o, n, z', rfl, H⟩ | ⟨rfl, H⟩ | ⟨n, s, rfl, H⟩
  all_goals exact ⟨_, fun _ => rfl, H⟩
theorem srcR_t {h : H} {a : A} {z n : Nat} {k : Rope → Bool} (H : srcR h a z n k = true) : ∃ q, (∀ k' : Rope → Bool, srcK false true h a z n k' = k' q) ∧ k q = true := by
  rcases aS_t H with ⟨b, o, l, c, rfl, H⟩ | ⟨b, o, l, z', rfl, H⟩ | ⟨rfl, H⟩ | ⟨l, s, rfl, H⟩
  · obtain ⟨h1, H⟩ := iF_t H
    obtain ⟨bt, r, e1, H⟩ := hG_t H
    obtain ⟨q, e2, H⟩ := rS_t H
    exact ⟨q, fun k' => by
      show okK false (Nat.ble n l) (cellsK false h b fun _ r => r.sub false true o (Nat.mul n z) k') = _
      rw [h1, okK, cond_true, e1, e2], H⟩
  · obtain ⟨h0, H⟩ := iF_t H
    obtain ⟨h1, H⟩ := iF_t H
    obtain ⟨bt, r, e1, H⟩ := hG_t H
    obtain ⟨q, e2, H⟩ := rS_t H
    exact ⟨q, fun k' => by
      show okK false (two (Nat.beq z z') (Nat.ble n l)) (cellsK false h b fun _ r => r.sub false true o (Nat.mul n z) k') = _
      rw [h0, h1]
      show cellsK false h b _ = _
      rw [e1, e2], H⟩
  · obtain ⟨h1, H⟩ := iF_t H
    exact ⟨_, fun k' => by
      show okK false (Nat.beq n 0) (k' (.by 0 0)) = _
      rw [h1]; rfl, H⟩
  · obtain ⟨h0, H⟩ := iF_t H
    obtain ⟨h1, H⟩ := iF_t H
    rw [nK_eq] at H
    exact ⟨_, fun k' => by
      show okK false (two (Nat.beq z 1) (Nat.ble n l)) (natK true (lo8 s n) fun s => k' (.by n s)) = _
      rw [h0, h1, natK_eq]; rfl, H⟩
theorem fitR_t {te : TI} {n : Nat} {b : Bool} (H : fitR te.size te.bytes n b = true) : fitsB te n = true ∧ b = true := by
  obtain ⟨h1, H⟩ := iF_t H
  obtain ⟨h2, H⟩ := iF_t H
  obtain ⟨h3, H⟩ := iF_t H
  unfold fitsB
  rw [show Nat.blt 0 te.size = true from h1, h2, h3]
  exact ⟨rfl, H⟩
theorem app_t {fl fd : Nat} {h : H} {nx : Nat} {e : TypeId} {te : TI} {s : A} {n : Nat} {q : Rope} {k : V → M2 → Bool} {k' : V → H → Nat → Bool} (hk : ∀ v h nx, k v (.mk h nx) = true → k' v h nx = true)
    (H : appR fl fd h nx e te.size te.bytes s n q k = true) : appK false true fl fd h nx e te s n q k' = true := by
  rcases aS_t H with ⟨b, o, l, c, rfl, H⟩ | ⟨b, o, l, z', rfl, H⟩ | ⟨rfl, H⟩ | ⟨_, _, rfl, H⟩
  · show (bif Nat.beq n 0 then k' (.at (.slice b o l c)) h nx else natK true (Nat.add l n) fun l' => bif Nat.ble l' c then cellsK false h b (fun bt r => okK false (Nat.ble fl b) (r.upd false true (Nat.add o (Nat.mul l te.size)) (Nat.mul n te.size) q fun r => setK false h b (.cells bt r) fun h => k' (.at (.slice b o l' c)) h nx)) else okK false (fitsB te l') (bif Nat.beq l 0 then newK false true h nx (.cells e q) (fun h nx' => k' (.at (.slu nx 0 l' te.size)) h nx') else cellsK false h b fun _ r => r.sub false true o (Nat.mul l te.size) fun x => natK true (Nat.mul l te.size) fun p => jn true p x q fun r => newK false true h nx (.cells e r) fun h nx' => k' (.at (.slu nx 0 l' te.size)) h nx')) = true
    rcases iF_c H with ⟨h1, H⟩ | ⟨h1, H⟩
    · rw [h1]; exact hk _ _ _ H
    · rw [h1, cond_false]
      rw [nK_eq] at H
      rw [natK_eq]
      rcases iF_c H with ⟨h2, H⟩ | ⟨h2, H⟩
      · rw [h2, cond_true]
        obtain ⟨bt, r, e1, H⟩ := hG_t H
        obtain ⟨h3, H⟩ := iF_t H
        obtain ⟨r', e2, H⟩ := rU_t H
        obtain ⟨h', e3, H⟩ := hP_t H
        rw [e1, h3, okK, cond_true, e2, e3]; exact hk _ _ _ H
      · rw [h2, cond_false]
        obtain ⟨h3, H⟩ := fitR_t H
        rw [h3, okK, cond_true]
        rcases iF_c H with ⟨h4, H⟩ | ⟨h4, H⟩
        · rw [h4, cond_true]
          obtain ⟨h', e3, H⟩ := hN_t H
          rw [e3]; exact hk _ _ _ H
        · rw [h4, cond_false]
          obtain ⟨bt, r, e1, H⟩ := hG_t H
          obtain ⟨x, e2, H⟩ := rS_t H
          rw [nK_eq] at H
          obtain ⟨r', e3, H⟩ := rJ_t H
          obtain ⟨h', e4, H⟩ := hN_t H
          rw [e1, e2, natK_eq, e3, e4]; exact hk _ _ _ H
  · show (bif Nat.beq n 0 then k' (.at (.slu b o l z')) h nx else okK false (two (Nat.beq te.size z') (Nat.ble fd b)) (natK true (Nat.add l n) fun l' => okK false (fitsB te l') (cellsK false h b fun bt r => okK false (Nat.beq bt e) (r.sub false true o (Nat.mul l te.size) fun x => natK true (Nat.mul l te.size) fun p => jn true p x q fun r => delK false h b fun h => newK false true h nx (.cells e r) fun h nx' => k' (.at (.slu nx 0 l' te.size)) h nx')))) = true
    rcases iF_c H with ⟨h1, H⟩ | ⟨h1, H⟩
    · rw [h1]; exact hk _ _ _ H
    · rw [h1, cond_false]
      obtain ⟨h2, H⟩ := iF_t H
      obtain ⟨h3, H⟩ := iF_t H
      rw [nK_eq] at H
      obtain ⟨h4, H⟩ := fitR_t H
      obtain ⟨bt, r, e1, H⟩ := hG_t H
      obtain ⟨h5, H⟩ := iF_t H
      obtain ⟨x, e2, H⟩ := rS_t H
      rw [nK_eq] at H
      obtain ⟨r', e3, H⟩ := rJ_t H
      obtain ⟨h', e4, H⟩ := hD_t H
      obtain ⟨h'', e5, H⟩ := hN_t H
      rw [h2, h3]
      show (natK true (Nat.add l n) fun l' => okK false (fitsB te l') (cellsK false h b fun bt r => okK false (Nat.beq bt e) (r.sub false true o (Nat.mul l te.size) fun x => natK true (Nat.mul l te.size) fun p => jn true p x q fun r => delK false h b fun h => newK false true h nx (.cells e r) fun h nx' => k' (.at (.slu nx 0 l' te.size)) h nx'))) = true
      rw [natK_eq, h4, okK, cond_true, e1, h5, okK, cond_true, e2, natK_eq, e3, e4, e5]; exact hk _ _ _ H
  · show (bif Nat.beq n 0 then k' (.at .nilSlice) h nx else okK false (fitsB te n) (newK false true h nx (.cells e q) fun h nx' => k' (.at (.slu nx 0 n te.size)) h nx')) = true
    rcases iF_c H with ⟨h1, H⟩ | ⟨h1, H⟩
    · rw [h1]; exact hk _ _ _ H
    · rw [h1, cond_false]
      obtain ⟨h2, H⟩ := fitR_t H
      obtain ⟨h', e1, H⟩ := hN_t H
      rw [h2, okK, cond_true, e1]; exact hk _ _ _ H
  · cases H
theorem ap_sim {c : Call} {x y : Operand} {t t2 et : TypeId} {ts : List TypeId} {ti ti2 te : TI} {g g' : GA} (hc : c.callee = .builtin .append) (ha : c.args.toList = [x, y]) (hts : c.argTypes.toList = t :: t2 :: ts)
    (ht : ∀ k' : TI → Bool, tyK false Γ t k' = k' ti) (ht2 : ∀ k' : TI → Bool, tyK false Γ t2 k' = k' ti2) (hti : ti.k = .sl et) (hte : ∀ k' : TI → Bool, tyK false Γ et k' = k' te) (hn : notInt ti2.k = true) (hg : SimA g x) (hg' : SimA g' y) : SimOp Γ (apF et te.size te.bytes g g') (.call c) := by
  intro C C' fl fd e env h nx k k' hC he hk H
  obtain ⟨a, e1, _, H⟩ := hg e env _ he H
  obtain ⟨b, e2, _, H⟩ := hg' e env _ he H
  obtain ⟨n, e3, H⟩ := lnR_t H
  obtain ⟨q, e4, H⟩ := srcR_t H
  rw [evO_bi hc, ha, eOs_two e1 e2, hts]
  show (tyK false Γ t fun ti => elem2K false Γ ti.k fun e te => tyK false Γ t2 fun ti2 => okK false (notInt ti2.k) (lenA false b fun n => srcK false true h b te.size n fun q => appK false true fl fd h nx e te a n q k')) = true
  rw [ht, hti]
  show (tyK false Γ et fun te => tyK false Γ t2 fun ti2 => okK false (notInt ti2.k) (lenA false b fun n => srcK false true h b te.size n fun q => appK false true fl fd h nx et te a n q k')) = true
  rw [hte, ht2, hn, okK, cond_true, e3, e4]
  exact app_t hk H
theorem aS_sl {a : A} {k ku : Nat → Nat → Nat → Nat → Bool} {kn : Bool} (h : aS a k ku kn (fun _ _ => false) = true) : isSl a = true := by
  cases a <;> first | rfl | cases h
theorem aS_cp {a : A} {k ku : Nat → Nat → Nat → Nat → Bool} {kn : Bool} (h : aS a k ku kn (fun _ _ => false) = true) :
    (∃ b o n c, a = .slice b o n c ∧ k b o n c = true) ∨ (∃ b o n z, a = .slu b o n z ∧ ku b o n z = true) ∨ (a = .nilSlice ∧ kn = true) := by
  cases a <;> first | exact .inl ⟨_, _, _, _, rfl, h⟩ | exact .inr (.inl ⟨_, _, _, _, rfl, h⟩) | exact .inr (.inr ⟨rfl, h⟩) | cases h
theorem cp_sim {c : Call} {x y : Operand} {t et : TypeId} {ts : List TypeId} {ti te : TI} {g g' : GA} (hc : c.callee = .builtin .copy) (ha : c.args.toList = [x, y]) (hts : c.argTypes.toList = t :: ts)
    (ht : ∀ k' : TI → Bool, tyK false Γ t k' = k' ti) (hti : ti.k = .sl et) (hte : ∀ k' : TI → Bool, tyK false Γ et k' = k' te) (hg : SimA g x) (hg' : SimA g' y) : SimOp Γ (cpF te.size g g') (.call c) := by
  intro C C' fl fd e env h nx k k' hC he hk H
  obtain ⟨d, e1, _, H⟩ := hg e env _ he H
  obtain ⟨b, e2, _, H⟩ := hg' e env _ he H
  obtain ⟨p, e3, H⟩ := lnR_t H
  obtain ⟨n0, e4, H⟩ := lnR_t H
  rw [nK_eq, iF_eq (Nat.ble n0 p) n0 p] at H
  obtain ⟨h1, H⟩ := iF_t H
  obtain ⟨q, e5, H⟩ := srcR_t H
  rw [evO_bi hc, ha, eOs_two e1 e2, hts]
  generalize hn : (bif Nat.ble n0 p then n0 else p) = n at H e5 h1
  have hsl : isSl d = true := aS_sl H
  have h1' : Nat.blt n 9223372036854775808 = true := h1
  simp only [builtinK, ht, hti, elem2K, hte, hsl, okK, cond_true, e3, e4, hn, natK_eq, h1', e5]
  rcases aS_cp H with ⟨b, o, l, c, rfl, H⟩ | ⟨b, o, l, z', rfl, H⟩ | ⟨rfl, H⟩
  · rcases iF_c H with ⟨h2, H⟩ | ⟨h2, H⟩
    · simp only [h2, cond_true]; exact hk _ _ _ H
    · simp only [h2, cond_false]
      obtain ⟨h3, H⟩ := iF_t H
      obtain ⟨bt, r, e6, H⟩ := hG_t H
      obtain ⟨r', e7, H⟩ := rU_t H
      obtain ⟨h', e8, H⟩ := hP_t H
      simp only [h3, cond_true, e6, e7, e8]; exact hk _ _ _ H
  · rcases iF_c H with ⟨h2, H⟩ | ⟨h2, H⟩
    · simp only [h2, cond_true]; exact hk _ _ _ H
    · simp only [h2, cond_false]
      obtain ⟨h3, H⟩ := iF_t H
      obtain ⟨bt, r, e6, H⟩ := hG_t H
      obtain ⟨r', e7, H⟩ := rU_t H
      obtain ⟨h', e8, H⟩ := hP_t H
      simp only [h3, cond_true, e6, e7, e8]; exact hk _ _ _ H
  · obtain ⟨h2, H⟩ := iF_t H
    simp only [h2, cond_true]; exact hk _ _ _ H
theorem min_par (big : Bool) : ∀ (ys : List A) (x : A), Par fun k => minK false big x ys k
  | [], x => Par.pure (V.at x)
  | y :: ys, x => by
    unfold minK
    cases x with
    | int ka a =>
      cases y with
      | int kb b => exact okK_par (F := fun k => bif _ then minK false big (.int ka b) ys k else minK false big (.int ka a) ys k) _ (Par.ite (F := fun k => minK false big (.int ka b) ys k) _ (min_par big ys _) (min_par big ys _))
      | _ => exact Par.bad
    | _ => exact Par.bad
theorem ats_par : ∀ vs : List V, Par fun k => builtinK.atsK false vs k
  | [] => Par.pure []
  | v :: vs => by
    cases v with
    | «at» a => exact (ats_par vs).bind (G := fun as k => k (a :: as)) fun as => Par.pure _
    | _ => exact Par.bad
theorem intLen_par (n : Nat) (h : H) (nx : Nat) : Par fun k : Out3 → Bool => intLen true n h nx false fun v h nx => k (v, h, nx) := by
  unfold intLen
  simp only [natK_eq]
  exact okK_par (F := fun k => k (V.at (.int .i64 n), h, nx)) _ (Par.pure (α := Out3) _)
theorem bi_par (fl fd : Nat) (b : Builtin) (hb : b = .len ∨ b = .min ∨ b = .max) (ts : List TypeId) (vs : List V) (h : H) (nx : Nat) : Par fun k : Out3 → Bool => builtinK false Γ true fl fd b ts vs h nx fun v h nx => k (v, h, nx) := by
  rcases hb with rfl | rfl | rfl
  · simp only [builtinK]
    split
    · refine (tyK_par _).bind (G := fun ti k => _) fun ti => ?_
      split
      · exact intLen_par _ _ _
      · refine (tyK_par _).bind (G := fun te k => match te.k with | .ar n _ => intLen true n h nx false fun v h nx => k (v, h, nx) | _ => false) fun te => ?_
        split
        · exact intLen_par _ _ _
        · exact Par.bad
      · unfold atK
        split
        · dsimp only
          split
          · exact intLen_par _ _ _
          · exact Par.bad
        · exact Par.bad
    · exact Par.bad
  · simp only [builtinK]
    split
    · rename_i x vs
      exact (ats_par vs).bind (G := fun ys k => minK false false x ys fun v => k (v, h, nx)) fun ys => (min_par false ys x).bind (G := fun v k => k (v, h, nx)) fun v => Par.pure (α := Out3) _
    · exact Par.bad
  · simp only [builtinK]
    split
    · rename_i x vs
      exact (ats_par vs).bind (G := fun ys k => minK false true x ys fun v => k (v, h, nx)) fun ys => (min_par true ys x).bind (G := fun v k => k (v, h, nx)) fun v => Par.pure (α := Out3) _
    · exact Par.bad
theorem bi_sim {c : Call} {b : Builtin} {l : LsV} (hc : c.callee = .builtin b) (hb : b = .len ∨ b = .min ∨ b = .max) (hl : SimLv l c.args.toList) : SimOp Γ (biF Γ b c.argTypes.toList l) (.call c) := by
  intro C C' fl fd e env h nx k k' hC he hk H
  obtain ⟨vs, e1, H⟩ := hl e env _ he H
  have H : builtinK false Γ true fl fd b c.argTypes.toList vs h nx (fun v h nx => k v (.mk h nx)) = true := H
  obtain ⟨v, h', nx', e2, H⟩ := (bi_par fl fd b hb c.argTypes.toList vs h nx).t3 (F := fun k => builtinK false Γ true fl fd b c.argTypes.toList vs h nx k) H
  rw [evO_bi hc, e1, e2]; exact hk _ _ _ H
theorem ca_sim {c : Call} {g : FuncId} {l : LsV} (hc : c.callee = .value (.func g)) (hl : SimLv l c.args.toList) : SimOp Γ (caF g l) (.call c) := by
  intro C C' fl fd e env h nx k k' hC he hk H
  obtain ⟨vs, e1, H⟩ := hl e env _ he H
  rw [evO_va hc]
  show (eOs false true env c.args.toList fun vs => C' fl fd g (atL [] ++ (vs ++ atL [])) h nx k') = true
  rw [e1, show atL [] ++ (vs ++ atL []) = vs by simp [atL]]
  exact hC _ _ _ _ _ _ _ _ (fun v h nx hv => hk v h nx hv) H
theorem cl_sim {c : Call} {x : Operand} {a : GA} {l : LsV} (hc : c.callee = .value x) (ha : SimA a x) (hl : SimLv l c.args.toList) : SimOp Γ (clF a l) (.call c) := by
  intro C C' fl fd e env h nx k k' hC he hk H
  obtain ⟨f, _, e1, H⟩ := ha e env _ he H
  obtain ⟨f, fs, cs, rfl, H⟩ := aF_t H
  rw [evO_va hc, e1]
  cases f with
  | func g =>
    obtain ⟨vs, e2, H⟩ := hl e env _ he H
    show (eOs false true env c.args.toList fun vs => C' fl fd g (atL fs ++ (vs ++ atL cs)) h nx k') = true
    rw [e2]
    exact hC _ _ _ _ _ _ _ _ (fun v h nx hv => hk v h nx hv) H
  | _ => cases H

/-! Maps. -/
theorem eqV_par' (t : TypeId) (x y : V) : Par fun k => eqV false Γ true 100 t x y k := eqV_par 100 t x y
theorem chk_fs {rc : TypeId → V → Bool → Bool} (hrc : ∀ t v, (∀ k, rc t v k = false) ∨ ∀ k, rc t v k = k) (r : Rope) : ∀ fs : List (Nat × Nat), (∀ k, chkFs false Γ true rc r fs k = false) ∨ ∀ k, chkFs false Γ true rc r fs k = k
  | [] => .inr fun _ => rfl
  | (o, t) :: fs => by
    unfold chkFs
    rcases tyK_par (Γ := Γ) t with h | ⟨ti, h⟩
    · exact .inl fun k => h _
    · rcases part_par ti r o with h1 | ⟨v, h1⟩
      · exact .inl fun k => (h _).trans (h1 _)
      · rcases hrc t v with h2 | h2
        · exact .inl fun k => (h _).trans ((h1 _).trans (h2 _))
        · rcases chk_fs hrc r fs with h3 | h3
          · exact .inl fun k => (h _).trans ((h1 _).trans ((h2 _).trans (h3 k)))
          · exact .inr fun k => (h _).trans ((h1 _).trans ((h2 _).trans (h3 k)))
theorem chk_ar {rc : TypeId → V → Bool → Bool} (hrc : ∀ t v, (∀ k, rc t v k = false) ∨ ∀ k, rc t v k = k) (r : Rope) (e : TypeId) (te : TI) : ∀ n i : Nat, (∀ k, chkAr false true rc r e te n i k = false) ∨ ∀ k, chkAr false true rc r e te n i k = k
  | 0, i => .inr fun _ => rfl
  | n + 1, i => by
    unfold chkAr
    rcases part_par te r (Nat.mul i te.size) with h1 | ⟨v, h1⟩
    · exact .inl fun k => h1 _
    · rcases hrc e v with h2 | h2
      · exact .inl fun k => (h1 _).trans (h2 _)
      · rcases chk_ar hrc r e te n (Nat.succ i) with h3 | h3
        · exact .inl fun k => (h1 _).trans ((h2 _).trans (h3 k))
        · exact .inr fun k => (h1 _).trans ((h2 _).trans (h3 k))
theorem chk_par : ∀ (f : Nat) (t : TypeId) (x : V), (∀ k, chkV false Γ true f t x k = false) ∨ ∀ k, chkV false Γ true f t x k = k
  | 0, t, x => .inl fun _ => rfl
  | f + 1, t, x => by
    unfold chkV
    rcases tyK_par (Γ := Γ) t with h | ⟨ti, h⟩
    · exact .inl fun k => h _
    · have ok : ∀ (b : Bool), (∀ k, okK false b k = false) ∨ ∀ k, okK false b k = k := fun b => by cases b; exact .inl fun _ => rfl; exact .inr fun _ => rfl
      have lift : ∀ F : Bool → Bool, ((∀ k, F k = false) ∨ ∀ k, F k = k) → (∀ G : Bool → TI → Bool, (∀ k, G k ti = F k) → (∀ k, tyK false Γ t (G k) = false) ∨ ∀ k, tyK false Γ t (G k) = k) := by
        intro F hF G hG
        rcases hF with hF | hF
        · exact .inl fun k => (h _).trans ((hG k).trans (hF k))
        · exact .inr fun k => (h _).trans ((hG k).trans (hF k))
      cases x with
      | «at» a => exact lift (fun k => okK false (atomK ti.k) k) (ok _) (fun k ti => okK false (atomK ti.k) k) fun k => rfl
      | agg r =>
        have body : (∀ k, (match ti.k with
          | .st fs => okK false ti.flat (chkFs false Γ true (chkV false Γ true f) r fs k)
          | .ar n e => tyK false Γ e fun te => bif isIntK te.k then okK false (Nat.beq r.len n) k else chkAr false true (chkV false Γ true f) r e te n 0 k
          | _ => false) = false) ∨ ∀ k, (match ti.k with
          | .st fs => okK false ti.flat (chkFs false Γ true (chkV false Γ true f) r fs k)
          | .ar n e => tyK false Γ e fun te => bif isIntK te.k then okK false (Nat.beq r.len n) k else chkAr false true (chkV false Γ true f) r e te n 0 k
          | _ => false) = k := by
          cases ti.k with
          | st fs =>
            rcases chk_fs (chk_par f) r fs with h1 | h1
            · rcases ok ti.flat with h2 | h2
              · exact .inl fun k => h2 _
              · exact .inl fun k => (h2 _).trans (h1 k)
            · rcases ok ti.flat with h2 | h2
              · exact .inl fun k => h2 _
              · exact .inr fun k => (h2 _).trans (h1 k)
          | ar n e =>
            rcases tyK_par (Γ := Γ) e with h1 | ⟨te, h1⟩
            · exact .inl fun k => h1 _
            · cases hi : isIntK te.k with
              | true =>
                rcases ok (Nat.beq r.len n) with h2 | h2
                · exact .inl fun k => (h1 _).trans (by rw [hi]; exact h2 k)
                · exact .inr fun k => (h1 _).trans (by rw [hi]; exact h2 k)
              | false =>
                rcases chk_ar (chk_par f) r e te n 0 with h2 | h2
                · exact .inl fun k => (h1 _).trans (by rw [hi]; exact h2 k)
                · exact .inr fun k => (h1 _).trans (by rw [hi]; exact h2 k)
          | _ => exact .inl fun _ => rfl
        rcases body with hb | hb
        · exact .inl fun k => (h _).trans (hb k)
        · exact .inr fun k => (h _).trans (hb k)
      | _ => exact .inl fun k => h _
theorem chk_then {α : Type} (t : TypeId) (x : V) {F : (α → Bool) → Bool} (hF : Par F) : Par fun k => chkV false Γ true 100 t x (F k) := by
  rcases chk_par (Γ := Γ) 100 t x with h | h
  · exact .inl fun k => h _
  · rcases hF with g | ⟨a, g⟩
    · exact .inl fun k => (h _).trans (g k)
    · exact .inr ⟨a, fun k => (h _).trans (g k)⟩
theorem find_par {α : Type} (t : TypeId) (key : V) {yes : Nat → V → V → Nat → (α → Bool) → Bool} {no : (α → Bool) → Bool} (hy : ∀ i q v n, Par (yes i q v n)) (hn : Par no) : ∀ (es : List (V × V × Nat)) (i : Nat), Par fun k => findK false Γ true t key es i (fun i q v n => yes i q v n k) (no k)
  | [], i => hn
  | (q, v, n) :: es, i => by
    unfold findK
    exact (eqV_par' t key q).bind (G := fun b k => bif b then yes i q v n k else findK false Γ true t key es (Nat.succ i) (fun i q v n => yes i q v n k) (no k)) fun b => Par.ite (F := yes i q v n) _ (hy i q v n) (find_par t key hy hn es (Nat.succ i))
theorem zero_par (te : TI) : Par fun k => zeroVK false te k := by
  unfold zeroVK
  refine Par.ite (F := fun k => k (V.agg te.zero)) _ (Par.pure _) ?_
  cases te.zero.get 0 with
  | none => exact Par.bad
  | some a => exact Par.pure _
theorem mty_par {α : Type} (t : TypeId) {F : TypeId → TI → (α → Bool) → Bool} (hF : ∀ a tb, Par (F a tb)) : Par fun k => mtyK false Γ t fun a tb => F a tb k := by
  unfold mtyK
  refine (tyK_par t).bind (G := fun ti k => match ti.k with | .mp a b => tyK false Γ a fun _ => tyK false Γ b fun tb => F a tb k | _ => false) fun ti => ?_
  cases ti.k with
  | mp a b => exact (tyK_par a).bind (G := fun _ k => tyK false Γ b fun tb => F a tb k) fun _ => (tyK_par b).bind (G := fun tb k => F a tb k) fun tb => hF a tb
  | _ => exact Par.bad
theorem map_cases (h : H) (b : Nat) : Par2 fun k => mapK false h b k := by
  unfold mapK
  split
  · rename_i es c _; exact .inr ⟨es, c, fun _ => rfl⟩
  · exact .inl fun _ => rfl
theorem look_par (h : H) (t : TypeId) (x : A) (key : V) (ok : Bool) : Par fun k => lookK false Γ true h t x key ok k := by
  unfold lookK
  refine mty_par t (F := fun a tb k => _) fun a tb => ?_
  have hz : Par fun k => zeroVK false tb fun z => bif ok then k (V.tup [z, .at (.bool false)]) else k z :=
    (zero_par tb).bind (G := fun z k => bif ok then k (V.tup [z, .at (.bool false)]) else k z) fun z => Par.ite (F := fun k => k _) _ (Par.pure _) (Par.pure _)
  cases x with
  | nilMap => exact chk_then a key hz
  | map r => exact (map_cases h r).bind (G := fun es c k => chkV false Γ true 100 a key (findK false Γ true a key es 0 (fun _ _ v _ => bif ok then k (V.tup [v, .at (.bool true)]) else k v) (zeroVK false tb fun z => bif ok then k (V.tup [z, .at (.bool false)]) else k z))) fun es c =>
      chk_then a key (find_par a key (yes := fun _ _ v _ k => bif ok then k (V.tup [v, .at (.bool true)]) else k v) (fun i q v n => Par.ite (F := fun k => k _) _ (Par.pure _) (Par.pure _)) hz es 0)
  | _ => exact Par.bad
theorem set_par (h : H) (b : Nat) (bk : Bk) : Par fun k => setK false h b bk k := put_par 64 h b (some bk)
theorem mapSet_par (fl : Nat) (h : H) (t : TypeId) (x : A) (key v : V) : Par fun k => mapSetK false Γ true fl h t x key v k := by
  unfold mapSetK
  refine mty_par t (F := fun a tb k => _) fun a tb => ?_
  cases x with
  | map r =>
    refine okK_par (F := fun k => mapK false h r fun es c => chkV false Γ true 100 a key (findK false Γ true a key es 0 (fun i q _ n => okK false (sameK q key) (setK false h r (.map (es.set i (key, v, n)) c) k)) (natK true (Nat.succ c) fun c' => setK false h r (.map (es ++ [(key, v, c)]) c') k))) _ ?_
    refine (map_cases h r).bind (G := fun es c k => chkV false Γ true 100 a key (findK false Γ true a key es 0 (fun i q _ n => okK false (sameK q key) (setK false h r (.map (es.set i (key, v, n)) c) k)) (natK true (Nat.succ c) fun c' => setK false h r (.map (es ++ [(key, v, c)]) c') k))) fun es c => ?_
    refine chk_then a key (find_par a key (yes := fun i q _ n k => okK false (sameK q key) (setK false h r (.map (es.set i (key, v, n)) c) k)) (fun i q v' n => okK_par _ (set_par h r _)) ?_ es 0)
    simp only [natK_eq]
    exact set_par h r _
  | _ => exact Par.bad
abbrev Out2 := V × H
theorem mapEntry_par (fl : Nat) (h : H) (t : TypeId) (x : A) (key : V) : Par fun k : Out2 → Bool => mapEntryK false Γ true fl h t x key fun v h => k (v, h) := by
  unfold mapEntryK
  refine mty_par t (F := fun a tb k => _) fun a tb => ?_
  cases x with
  | map r =>
    have hy : ∀ (es : List (V × V × Nat)) (c i : Nat) (q v : V) (n : Nat), Par fun k : Out2 → Bool => okK false (two (sameK q key) (Nat.blt n 9223372036854775808)) (setK false h r (.map (es.set i (key, v, n)) c) fun h => k (V.tup [v, .at (.int .i64 n)], h)) := fun es c i q v n => okK_par _ ((set_par h r _).bind (G := fun h k => k (V.tup [v, .at (.int .i64 n)], h)) fun h => Par.pure (α := Out2) _)
    have hn : ∀ (es : List (V × V × Nat)) (c : Nat), Par fun k : Out2 → Bool => zeroVK false tb fun z => okK false (Nat.blt c 9223372036854775808) (natK true (Nat.succ c) fun c' => setK false h r (.map (es ++ [(key, z, c)]) c') fun h => k (V.tup [z, .at (.int .i64 c)], h)) := fun es c => by
      simp only [natK_eq]
      exact (zero_par tb).bind (G := fun z k => okK false (Nat.blt c 9223372036854775808) (setK false h r (.map (es ++ [(key, z, c)]) (Nat.succ c)) fun h => k (V.tup [z, .at (.int .i64 c)], h))) fun z => okK_par _ ((set_par h r _).bind (G := fun h k => k (V.tup [z, .at (.int .i64 c)], h)) fun h => Par.pure (α := Out2) _)
    refine okK_par (F := fun k : Out2 → Bool => mapK false h r fun es c => chkV false Γ true 100 a key (findK false Γ true a key es 0
      (fun i q v n => okK false (two (sameK q key) (Nat.blt n 9223372036854775808)) (setK false h r (.map (es.set i (key, v, n)) c) fun h => k (V.tup [v, .at (.int .i64 n)], h)))
      (zeroVK false tb fun z => okK false (Nat.blt c 9223372036854775808) (natK true (Nat.succ c) fun c' => setK false h r (.map (es ++ [(key, z, c)]) c') fun h => k (V.tup [z, .at (.int .i64 c)], h))))) _ ?_
    exact (map_cases h r).bind (G := fun es c k => chkV false Γ true 100 a key (findK false Γ true a key es 0
      (fun i q v n => okK false (two (sameK q key) (Nat.blt n 9223372036854775808)) (setK false h r (.map (es.set i (key, v, n)) c) fun h => k (V.tup [v, .at (.int .i64 n)], h)))
      (zeroVK false tb fun z => okK false (Nat.blt c 9223372036854775808) (natK true (Nat.succ c) fun c' => setK false h r (.map (es ++ [(key, z, c)]) c') fun h => k (V.tup [z, .at (.int .i64 c)], h))))) fun es c =>
      chk_then a key (find_par a key (yes := fun i q v n k => okK false (two (sameK q key) (Nat.blt n 9223372036854775808)) (setK false h r (.map (es.set i (key, v, n)) c) fun h => k (V.tup [v, .at (.int .i64 n)], h))) (hy es c) (hn es c) es 0)
  | _ => exact Par.bad
theorem stamp_par (n : Nat) {α : Type} {F : Nat → V → (α → Bool) → Bool} (hF : ∀ j q, Par (F j q)) : ∀ (es : List (V × V × Nat)) (j : Nat), Par fun k => stampK false n es j fun j q => F j q k
  | [], j => Par.bad
  | (q, _, i) :: es, j => Par.ite (F := F j q) _ (hF j q) (stamp_par n hF es (Nat.succ j))
theorem entryStore_par (fl : Nat) (h : H) (x n : A) (v : V) : Par fun k => entryStoreK false fl h x n v k := by
  unfold entryStoreK
  have hidx : Par fun k => idxK false n k := by
    unfold idxK
    cases n with
    | int kd n => exact Par.ite (F := fun k => k n) _ (Par.pure _) Par.bad
    | _ => exact Par.bad
  refine hidx.bind (G := fun n k => _) fun n => ?_
  cases x with
  | map r =>
    refine okK_par (F := fun k => mapK false h r fun es c => stampK false n es 0 fun j q => setK false h r (.map (es.set j (q, v, n)) c) k) _ ?_
    exact (map_cases h r).bind (G := fun es c k => stampK false n es 0 fun j q => setK false h r (.map (es.set j (q, v, n)) c) k) fun es c => stamp_par n (F := fun j q k => setK false h r (.map (es.set j (q, v, n)) c) k) (fun j q => set_par h r _) es 0
  | _ => exact Par.bad
theorem mm_sim {t a b : TypeId} {ti : TI} (ht : ∀ k' : TI → Bool, tyK false Γ t k' = k' ti) (hti : ti.k = .mp a b) : SimOp Γ mmF (.makeMap t none) := by
  intro C C' fl fd e env h nx k k' hC he hk H
  have H : hN h nx (.map [] 0) (fun h nx' => k (.at (.map nx)) (.mk h nx')) = true := H
  obtain ⟨h', e1, H⟩ := hN_t H
  show (tyK false Γ t fun ti => match ti.k with | .mp _ _ => newK false true h nx (.map [] 0) fun h nx' => k' (.at (.map nx)) h nx' | _ => false) = true
  rw [ht, hti]
  show (newK false true h nx (.map [] 0) fun h nx' => k' (.at (.map nx)) h nx') = true
  rw [e1]; exact hk _ _ _ H
theorem mmX_sim {t a b : TypeId} {ti : TI} {x : Operand} {g : GN} (ht : ∀ k' : TI → Bool, tyK false Γ t k' = k' ti) (hti : ti.k = .mp a b) (hg : SimX g x) : SimOp Γ (mmX g) (.makeMap t (some x)) := by
  intro C C' fl fd e env h nx k k' hC he hk H
  obtain ⟨a', n, e2, e3, H⟩ := hg e env _ he H
  have H : hN h nx (.map [] 0) (fun h nx' => k (.at (.map nx)) (.mk h nx')) = true := H
  obtain ⟨h', e1, H⟩ := hN_t H
  show (tyK false Γ t fun ti => match ti.k with | .mp _ _ => (eA false true env x fun a => idxK false a fun _ => newK false true h nx (.map [] 0) fun h nx' => k' (.at (.map nx)) h nx') | _ => false) = true
  rw [ht, hti]
  show (eA false true env x fun a => idxK false a fun _ => newK false true h nx (.map [] 0) fun h nx' => k' (.at (.map nx)) h nx') = true
  rw [e2, e3, e1]; exact hk _ _ _ H
theorem lk_sim {t : TypeId} {x i : Operand} {ok : Bool} {a : GA} {g : GV} (ha : SimA a x) (hg : SimG g i) : SimOp Γ (lkF Γ t ok a g) (.lookup t x i ok) := by
  intro C C' fl fd e env h nx k k' hC he hk H
  obtain ⟨av, _, e1, H⟩ := ha e env _ he H
  obtain ⟨key, e2, H⟩ := hg e env _ he H
  obtain ⟨v, e3, H⟩ := (look_par h t av key ok).t (k := fun v => k v (.mk h nx)) H
  show (eA false true env x fun a => eO false true env i fun key => lookK false Γ true h t a key ok fun v => k' v h nx) = true
  rw [e1, e2, e3]; exact hk _ _ _ H
theorem mu_sim {t : TypeId} {x i y : Operand} {a : GA} {g v : GV} (o : Op) (ho : o = .mapUpdate t x i y ∨ o = .insert t x i y) (ha : SimA a x) (hg : SimG g i) (hv : SimG v y) : SimOp Γ (muF Γ t a g v) o := by
  intro C C' fl fd e env h nx k k' hC he hk H
  obtain ⟨av, _, e1, H⟩ := ha e env _ he H
  obtain ⟨key, e2, H⟩ := hg e env _ he H
  obtain ⟨vv, e3, H⟩ := hv e env _ he H
  obtain ⟨h', e4, H⟩ := (mapSet_par fl h t av key vv).t (k := fun h => k .undef (.mk h nx)) H
  rcases ho with rfl | rfl
  · show (eA false true env x fun a => eO false true env i fun key => eO false true env y fun v => mapSetK false Γ true fl h t a key v fun h => k' .undef h nx) = true
    rw [e1, e2, e3, e4]; exact hk _ _ _ H
  · show (eA false true env x fun a => eO false true env i fun key => eO false true env y fun v => mapSetK false Γ true fl h t a key v fun h => k' .undef h nx) = true
    rw [e1, e2, e3, e4]; exact hk _ _ _ H
theorem me_sim {t : TypeId} {x i : Operand} {a : GA} {g : GV} (ha : SimA a x) (hg : SimG g i) : SimOp Γ (meF Γ t a g) (.mapEntry t x i) := by
  intro C C' fl fd e env h nx k k' hC he hk H
  obtain ⟨av, _, e1, H⟩ := ha e env _ he H
  obtain ⟨key, e2, H⟩ := hg e env _ he H
  obtain ⟨⟨v, h'⟩, e3, H⟩ := (mapEntry_par fl h t av key).t (k := fun p => k p.1 (.mk p.2 nx)) H
  show (eA false true env x fun a => eO false true env i fun key => mapEntryK false Γ true fl h t a key fun v h => k' v h nx) = true
  rw [e1, e2]
  exact (e3 fun p => k' p.1 p.2 nx).trans (hk _ _ _ H)
theorem es_sim {t : TypeId} {x i y : Operand} {a n : GA} {v : GV} (ha : SimA a x) (hn : SimA n i) (hv : SimG v y) : SimOp Γ (esF a n v) (.entryStore t x i y) := by
  intro C C' fl fd e env h nx k k' hC he hk H
  obtain ⟨av, _, e1, H⟩ := ha e env _ he H
  obtain ⟨nv, _, e2, H⟩ := hn e env _ he H
  obtain ⟨vv, e3, H⟩ := hv e env _ he H
  obtain ⟨h', e4, H⟩ := (entryStore_par fl h av nv vv).t (k := fun h => k .undef (.mk h nx)) H
  show (eA false true env x fun a => eA false true env i fun n => eO false true env y fun v => entryStoreK false fl h a n v fun h => k' .undef h nx) = true
  rw [e1, e2, e3, e4]; exact hk _ _ _ H

/-! Whatever is compiled. -/
theorem iF_mk2 {α : Type} {b : Bool} {c d : Cl α} {x : α} (h : iF b c d = .mk x) : (b = true ∧ c = .mk x) ∨ (b = false ∧ d = .mk x) := by cases b <;> simp_all [iF]
theorem int_ok {op : BinOp} {kd : IntKind} {x y : Operand} {a b : GV} {t yt : TypeId} {f : OpF} (ha : SimG a x) (hb : SimG b y) (h : intC Γ op kd a b yt = .mk f) : SimOp Γ f (.binOp op t x y yt) := by
  unfold intC at h
  rw [kdC_eq, nK_eq, nK_eq] at h
  cases op <;> simp only [nK_eq] at h
  case add => cases h; exact ar_sim (ha.i kd) (hb.i kd) rfl fun _ _ => rfl
  case sub => cases h; exact ar_sim (ha.i kd) (hb.i kd) rfl fun _ _ => rfl
  case mul => cases h; exact ar_sim (ha.i kd) (hb.i kd) rfl fun _ _ => rfl
  case and => cases h; exact ar_sim (ha.i kd) (hb.i kd) rfl fun _ _ => rfl
  case or => cases h; exact ar_sim (ha.i kd) (hb.i kd) rfl fun _ _ => rfl
  case xor => cases h; exact ar_sim (ha.i kd) (hb.i kd) rfl fun _ _ => rfl
  case andNot => cases h; exact ar_sim (ha.i kd) (hb.i kd) rfl fun _ _ => rfl
  case quo => cases h; exact qr_sim (ha.i kd) (hb.i kd) rfl fun _ _ => rfl
  case rem => cases h; exact qr_sim (ha.i kd) (hb.i kd) rfl fun _ _ => rfl
  case eql => cases h; exact cm_sim (ha.i kd) (hb.i kd) rfl fun _ _ => rfl
  case neq => cases h; exact cm_sim (ha.i kd) (hb.i kd) rfl fun p q => by show some (A.bool (not (Nat.beq p q))) = _; rw [iF_eq]; cases Nat.beq p q <;> rfl
  case lss => cases h; exact cm_sim (ha.i kd) (hb.i kd) rfl fun _ _ => rfl
  case leq => cases h; exact cm_sim (ha.i kd) (hb.i kd) rfl fun _ _ => rfl
  case gtr => cases h; exact cm_sim (ha.i kd) (hb.i kd) rfl fun _ _ => rfl
  case geq => cases h; exact cm_sim (ha.i kd) (hb.i kd) rfl fun _ _ => rfl
  case shl =>
    obtain ⟨ti, _, _, h⟩ := tyC_mk h
    split at h
    · rw [kdC_eq] at h; cases h; exact shl_sim (ha.i kd) (hb.i _)
    · cases h
  case shr =>
    obtain ⟨ti, _, _, h⟩ := tyC_mk h
    split at h
    · rw [kdC_eq] at h; cases h; exact shr_sim (ha.i kd) (hb.i _)
    · cases h
theorem bin_ok {op : BinOp} {x y : Operand} {a b : GV} {t yt : TypeId} {f : OpF} (ha : SimG a x) (hb : SimG b y) (h : binC Γ op t a b yt = .mk f) : SimOp Γ f (.binOp op t x y yt) := by
  unfold binC at h
  obtain ⟨ti, ht, _, h⟩ := tyC_mk h
  split at h
  · exact int_ok ha hb h
  · rename_i hti
    split at h
    · cases h; exact eb_sim true ht hti ha.b hb.b rfl
    · cases h; exact eb_sim false ht hti ha.b hb.b rfl
    · cases h
  · cases h; exact bn_sim ha hb
theorem cvt_ok {s d : TypeId} {x : Operand} {f : OpF} (h : cvC Γ s d x = .mk f) : SimOp Γ f (.convert s d x) := by
  unfold cvC at h
  obtain ⟨ts, hs, _, h⟩ := tyC_mk h
  obtain ⟨td, hd, _, h⟩ := tyC_mk h
  split at h
  · rename_i ks kd hks hkd
    obtain ⟨g, h1, h⟩ := Cl.go_mk h
    rw [kdC_eq] at h
    simp only [nK_eq] at h
    rcases iF_mk2 h with ⟨h2, h⟩ | ⟨h2, h⟩
    · cases h
      refine ci_sim hs hd hkd ((oC_ok h1).i ks) fun n => ?_
      unfold cvI
      rw [h2]; cases Nat.blt n (tp ks) <;> rfl
    · cases h
      refine ci_sim hs hd hkd ((oC_ok h1).i ks) fun n => ?_
      unfold cvI
      rw [h2, iF_eq]; rfl
  · obtain ⟨g, h1, h⟩ := Cl.go_mk h
    cases h
    exact cv_sim (aC_ok h1)
theorem fld_mk {α : Type} {s : TypeId} {f : Nat} {k : Nat → TI → Cl α} {x : α} (h : fldC Γ s f k = .mk x) : ∃ o ti, (∀ k' : Nat → TI → Bool, (fieldOf false Γ s f fun o t => tyK false Γ t fun ti => k' o ti) = k' o ti) ∧ k o ti = .mk x := by
  unfold fldC at h
  obtain ⟨ts, hs, _, h⟩ := tyC_mk h
  split at h
  · rename_i fs hfs
    split at h
    · rename_i o t hft
      rw [nK_eq] at h
      obtain ⟨ti, ht, _, h⟩ := tyC_mk h
      refine ⟨o, ti, fun k' => ?_, h⟩
      unfold fieldOf
      rw [hs, hfs]
      show (match fs[f]? with | some (o, t) => tyK false Γ t fun ti => k' o ti | none => false) = _
      rw [hft]
      exact ht _
    · cases h
  · cases h
theorem bi_ok {c : Call} {b : Builtin} {f : OpF} (hc : c.callee = .builtin b) (h : biC Γ b c.argTypes.toList c.args.toList = .mk f) : SimOp Γ f (.call c) := by
  unfold biC at h
  split at h
  · rename_i ha hts
    obtain ⟨ti, ht, _, h⟩ := tyC_mk h
    split at h
    · obtain ⟨g, h1, h⟩ := Cl.go_mk h
      cases h
      exact ln_sim hc ha hts ht (.inl ⟨rfl, _, by assumption⟩) (aC_ok h1)
    · obtain ⟨g, h1, h⟩ := Cl.go_mk h
      cases h
      exact ln_sim hc ha hts ht (.inr ⟨rfl, by assumption⟩) (aC_ok h1)
    · obtain ⟨l, h1, h⟩ := Cl.go_mk h
      cases h
      exact bi_sim hc (.inl rfl) (lvC_ok h1)
  · rename_i ha hts
    obtain ⟨ti, ht, _, h⟩ := tyC_mk h
    obtain ⟨ti2, ht2, _, h⟩ := tyC_mk h
    split at h
    · obtain ⟨te, hte, _, h⟩ := tyC_mk h
      obtain ⟨hn, h⟩ := iF_mk h
      obtain ⟨g, h1, h⟩ := Cl.go_mk h
      obtain ⟨g', h2, h⟩ := Cl.go_mk h
      cases h
      exact ap_sim hc ha hts ht ht2 (by assumption) hte hn (aC_ok h1) (aC_ok h2)
    · cases h
  · rename_i ha hts
    obtain ⟨ti, ht, _, h⟩ := tyC_mk h
    split at h
    · obtain ⟨te, hte, _, h⟩ := tyC_mk h
      obtain ⟨g, h1, h⟩ := Cl.go_mk h
      obtain ⟨g', h2, h⟩ := Cl.go_mk h
      cases h
      exact cp_sim hc ha hts ht (by assumption) hte (aC_ok h1) (aC_ok h2)
    · cases h
  · obtain ⟨l, h1, h⟩ := Cl.go_mk h
    cases h
    exact bi_sim hc (.inr (.inl rfl)) (lvC_ok h1)
  · obtain ⟨l, h1, h⟩ := Cl.go_mk h
    cases h
    exact bi_sim hc (.inr (.inr rfl)) (lvC_ok h1)
  · cases h
end Go.S
