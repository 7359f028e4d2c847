/-
  E, twelfth text: what an operation does: all of them.
-/
import Derived.Test.YtbecokebaikhaaaGreatEka
namespace Go.E
open Go Go.RowKit Go.V
set_option linter.unusedVariables false
set_option linter.unusedSimpArgs false
section
variable {R : Type} {bad : R} {P : Program} {fl fd : Nat} {env : En} {h : H} {nx : Nat} {o : Op} {k : V → H → Nat → R}
theorem out_new (m : Bool) (t : TypeId) (r : Rope) (val : V)
    (hrun : ∀ ρ n a w, EnvOk ρ n env a → Rel ρ h.get nx w → ∀ d ty pos aft g, ∃ arr x cs, (execOp a.eval ⟨d, o, ty, pos, aft, g⟩).run P w = .ok (.value x) { w with heap := w.heap.push (.cells arr t (0, 0)) } ∧
      RR ρ r cs ∧ (∀ (i : Nat) (v : Value), cs[i]? = some v → arr[i]? = some v) ∧ ∀ ρ' : Plc, ρ' nx = some ⟨w.heap.size, 0, arr.size⟩ → VR ρ' val x) :
    Out bad (newK bad m h nx (.cells t r) fun h nx' => k val h nx') (OutO P fl fd env h nx o k) := by
  rcases newK_ok (bad := bad) (h := h) (nx := nx) m (.cells t r) (fun h nx' => k val h nx') with e | ⟨h', nx', ⟨rfl, hget⟩, e⟩
  · exact .inl e
  · rw [e]
    refine .inr ⟨val, h', nx + 1, fun ρ n a w he hr d ty pos aft g => ?_, rfl⟩
    obtain ⟨arr, x, cs, h1, h2, h3, h4⟩ := hrun ρ n a w he hr d ty pos aft g
    rw [h1]
    refine ⟨_, h4 _ ?_, stp_new hr h2 h3 (.inl rfl) rfl rfl rfl rfl hget⟩
    show (if nx = nx then _ else _) = _
    rw [if_pos rfl]
theorem VR.cells {ρ : Plc} {v : V} {x : Value} (h : VR ρ v x) : True := trivial
theorem move_ok (x : Operand) {o : Op} (ho : o = .move x ∨ o = .assign x) (m : Bool) : Out bad (eO bad m env x fun v => k v h nx) (OutO P fl fd env h nx o k) :=
  (eO_ok m env x _).out fun v hv => PureOk.out fun ρ n a he w d ty pos aft g => ⟨a.eval x, by rcases ho with rfl | rfl <;> simp [execOp], hv ρ n a he⟩
theorem pick_ok (m : Bool) (c x y : Operand) : Out bad (eA bad m env c fun c => match c with | .bool b' => bif b' then eO bad m env x fun v => k v h nx else eO bad m env y fun v => k v h nx | _ => bad) (OutO P fl fd env h nx (.pick c x y) k) := by
  refine (eA_ok m env c _).out fun b hb => ?_
  split
  · rename_i b'
    cases b' with
    | true =>
      exact (eO_ok m env x _).out fun v hv => PureOk.out fun ρ n a he w d ty pos aft g => by
        have := hb ρ n a he
        generalize hc : a.eval c = z at this
        cases this
        exact ⟨a.eval x, by simp [execOp, hc, asBool], hv ρ n a he⟩
    | false =>
      exact (eO_ok m env y _).out fun v hv => PureOk.out fun ρ n a he w d ty pos aft g => by
        have := hb ρ n a he
        generalize hc : a.eval c = z at this
        cases this
        exact ⟨a.eval y, by simp [execOp, hc, asBool], hv ρ n a he⟩
  · exact .inl rfl
theorem alloc_ok {Γ : Ctx} (hΓ : ∀ t ti, Γ.ty.get t = some ti → TyOk P t ti) (m : Bool) (t : TypeId) : Out bad (tyK bad Γ t fun ti => newK bad m h nx (.cells t ti.zero) fun h nx' => k (.at (.ptr nx 0)) h nx') (OutO P fl fd env h nx (.alloc t) k) := by
  refine (tyK_ok hΓ t _).out fun ti hti => out_new m t _ _ fun ρ n a w he hr d ty pos aft g => ?_
  obtain ⟨z, h1, h2, h3, h4⟩ := hti.run_zero w
  refine ⟨z.cells, .pointer (some ⟨w.heap.size, 0, none⟩), z.cells.toList, by simp [execOp, Instr.alloc, newVar, newRow, h1], h4 ρ, fun i v hv => by simpa using hv, fun ρ' hp => .at _ _ ?_⟩
  exact .ptr nx 0 _ hp
theorem box_ok (m : Bool) (t : TypeId) (x : Operand) : Out bad (eO bad m env x fun v => ropeK bad v fun r => newK bad m h nx (.cells t r) fun h nx' => k (.at (.ptr nx 0)) h nx') (OutO P fl fd env h nx (.box t x) k) := by
  refine (eO_ok m env x _).out fun v hv => (ropeK_ok v _).out fun r hr => out_new m t _ _ fun ρ n a w he hrel d ty pos aft g => ?_
  refine ⟨(a.eval x).cells, .pointer (some ⟨w.heap.size, 0, none⟩), (a.eval x).cells.toList, by simp [execOp, Instr.box, newVar, newRow], hr ρ _ (hv ρ n a he), fun i v hv => by simpa using hv, fun ρ' hp => .at _ _ ?_⟩
  exact .ptr nx 0 _ hp
theorem load_ok {Γ : Ctx} (hΓ : ∀ t ti, Γ.ty.get t = some ti → TyOk P t ti) (m : Bool) (t : TypeId) (x : Operand) : Out bad (eA bad m env x fun a => ptrK bad a fun b o => loadK bad Γ m h t b o fun v => k v h nx) (OutO P fl fd env h nx (.load t x) k) := by
  refine (eA_ok m env x _).out fun a ha => (ptrK_ok a _).out fun b o hab => (loadK_ok (nx := nx) hΓ m t b o _).out fun v hv => ?_
  subst hab
  refine .inr ⟨v, h, nx, fun ρ n act w he hr d ty pos aft g => ?_, rfl⟩
  have hx := ha ρ n act he
  generalize hc : act.eval x = z at hx
  cases hx with
  | ptr _ _ p hp =>
    obtain ⟨y, h1, h2⟩ := hv ρ w p hr hp
    have : (execOp act.eval ⟨d, .load t x, ty, pos, aft, g⟩).run P w = .ok (.value y) w := by simp [execOp, Instr.loadAt, hc, Instr.sureAddr, h1]
    rw [this]
    exact ⟨ρ, h2, Stp.refl hr⟩
theorem store_ok {Γ : Ctx} (hΓ : ∀ t ti, Γ.ty.get t = some ti → TyOk P t ti) (m : Bool) (t : TypeId) (x y : Operand) : Out bad (eA bad m env x fun a => ptrK bad a fun b o => eO bad m env y fun v => storeK bad Γ m fl h t b o v fun h => k .undef h nx) (OutO P fl fd env h nx (.store t x y) k) := by
  refine (eA_ok m env x _).out fun a ha => (ptrK_ok a _).out fun b o hab => (eO_ok m env y _).out fun v hv => (storeK_ok (nx := nx) (fl := fl) (fd := fd) hΓ m t b o v _).out fun h' hh => ?_
  subst hab
  refine .inr ⟨_, h', nx, fun ρ n act w he hr d ty pos aft g => ?_, rfl⟩
  have hx := ha ρ n act he
  generalize hc : act.eval x = z at hx
  cases hx with
  | ptr _ _ p hp =>
    obtain ⟨w', h1, h2⟩ := hh ρ w p _ hr hp (hv ρ n act he)
    have : (execOp act.eval ⟨d, .store t x y, ty, pos, aft, g⟩).run P w = .ok .skip w' := by simp [execOp, Instr.storeAt, hc, Instr.sureAddr, h1]
    rw [this]
    exact ⟨ρ, .undef, h2⟩
theorem nilCheck_ok (m : Bool) (x : Operand) : Out bad (eA bad m env x fun a => ptrK bad a fun _ _ => k (.at a) h nx) (OutO P fl fd env h nx (.nilCheck x) k) := by
  refine (eA_ok m env x _).out fun a ha => (ptrK_ok a _).out fun b o hab => PureOk.out fun ρ n act he w d ty pos aft g => ?_
  subst hab
  have hx := ha ρ n act he
  generalize hc : act.eval x = z at hx
  cases hx with
  | ptr _ _ p hp => exact ⟨_, by simp [execOp, hc], .at _ _ (.ptr _ _ p hp)⟩
theorem bin_ok {Γ : Ctx} (hΓ : ∀ t ti, Γ.ty.get t = some ti → TyOk P t ti) (m : Bool) (op : BinOp) (t : TypeId) (x y : Operand) (t2 : TypeId) : Out bad (eO bad m env x fun x => eO bad m env y fun y => binV bad Γ m op t x y fun v => k v h nx) (OutO P fl fd env h nx (.binOp op t x y t2) k) := by
  refine (eO_ok m env x _).out fun u hu => (eO_ok m env y _).out fun v hv => (binV_ok hΓ m op t u v _).out fun r hr => PureOk.out fun ρ n a he w d ty pos aft g => ?_
  obtain ⟨z, h1, h2⟩ := hr ρ _ _ (hu ρ n a he) (hv ρ n a he) x y w
  refine ⟨z, ?_, h2⟩
  simp only [execOp, Sem.run_bind] at h1 ⊢
  rw [h1]; rfl
theorem un_ok (m : Bool) (op : UnOp) (t : TypeId) (x : Operand) : Out bad (eA bad m env x fun x => unA bad m op x fun v => k v h nx) (OutO P fl fd env h nx (.unOp op t x) k) := by
  refine (eA_ok m env x _).out fun a ha => (unA_ok (P := P) m op a _).out fun r hr => PureOk.out fun ρ n act he w d ty pos aft g => ?_
  obtain ⟨z, h1, h2⟩ := hr ρ _ (ha ρ n act he) w
  exact ⟨z, by simp [execOp, h1], h2⟩
theorem fieldAddr_ok {Γ : Ctx} (hΓ : ∀ t ti, Γ.ty.get t = some ti → TyOk P t ti) (m : Bool) (s : TypeId) (x : Operand) (f : Nat) :
    Out bad (fieldOf bad Γ s f fun o t => tyK bad Γ t fun ti => okK bad (Nat.blt 0 ti.size) <| eA bad m env x fun a => ptrK bad a fun b p => natK m (Nat.add p o) fun p => k (.at (.ptr b p)) h nx) (OutO P fl fd env h nx (.fieldAddr s x f) k) := by
  refine (fieldOf_ok hΓ s f _).out fun off t hft => (tyK_ok hΓ t _).out fun ti hti => out_if fun hsz => (eA_ok m env x _).out fun a ha => (ptrK_ok a _).out fun b p hab => ?_
  obtain ⟨F, fdd, hu, hf, rfl, rfl⟩ := hft
  subst hab
  rw [natK_eq]
  refine PureOk.out fun ρ n act he w d ty pos aft g => ?_
  have hx := ha ρ n act he
  generalize hc : act.eval x = z at hx
  cases hx with
  | ptr _ _ q hq =>
    have hne : ¬ ti.size = 0 := by have := blt_t hsz; omega
    refine ⟨.pointer (some ⟨q.blk, q.sh + (p + fdd.offset), none⟩), ?_, .at _ _ (.ptr _ _ q hq)⟩
    simp [execOp, Instr.fieldAt, hc, underlying, hu, hf, Instr.sureAddr, fieldPlace, hti.run_size, hne, Addr.add_lit, Nat.add_assoc]
theorem field_ok {Γ : Ctx} (hΓ : ∀ t ti, Γ.ty.get t = some ti → TyOk P t ti) (m : Bool) (s : TypeId) (x : Operand) (f : Nat) :
    Out bad (fieldOf bad Γ s f fun o t => tyK bad Γ t fun ti => eO bad m env x fun v => match v with | .agg r => partK bad m ti r o fun v => k v h nx | _ => bad) (OutO P fl fd env h nx (.field s x f) k) := by
  refine (fieldOf_ok hΓ s f _).out fun off t hft => (tyK_ok hΓ t _).out fun ti hti => (eO_ok m env x _).out fun v hv => ?_
  obtain ⟨F, fdd, hu, hf, rfl, rfl⟩ := hft
  split
  · rename_i r
    refine (partK_ok m hti r _ _).out fun y hy => PureOk.out fun ρ n act he w d ty pos aft g => ?_
    have hx := hv ρ n act he
    generalize hc : act.eval x = z at hx
    cases hx with
    | agg _ cs hr =>
      rcases hy ρ cs hr with ⟨h1, h2, h3⟩ | ⟨h1, z, h2, h3⟩
      · refine ⟨_, ?_, h3⟩
        have := run_part (P := P) hti w (.inl ⟨h1, rfl⟩) (cs := cs) (o := fdd.offset)
        simp [execOp, Instr.field, hc, underlying, hu, hf, asAgg, this]
      · refine ⟨z, ?_, h3⟩
        have := run_part (P := P) hti w (.inr ⟨h1, h2⟩)
        simp [execOp, Instr.field, hc, underlying, hu, hf, asAgg, this]
  · exact .inl rfl
theorem indexAddr_ok {Γ : Ctx} (hΓ : ∀ t ti, Γ.ty.get t = some ti → TyOk P t ti) (m : Bool) (t : TypeId) (x i : Operand) : Out bad (eA bad m env x fun x => eA bad m env i fun i => indexK bad Γ m t x i fun v => k v h nx) (OutO P fl fd env h nx (.indexAddr t x i) k) := by
  refine (eA_ok m env x _).out fun u hu => (eA_ok m env i _).out fun v hv => (indexK_ok hΓ m t u v _).out fun r hr => PureOk.out fun ρ n a he w d ty pos aft g => ?_
  obtain ⟨z, h1, h2⟩ := hr ρ _ _ (hu ρ n a he) (hv ρ n a he) w
  exact ⟨z, by simp [execOp, h1], h2⟩
theorem index_ok {Γ : Ctx} (hΓ : ∀ t ti, Γ.ty.get t = some ti → TyOk P t ti) (m : Bool) (t : TypeId) (x i : Operand) : Out bad (eO bad m env x fun x => eA bad m env i fun i => indexV bad Γ m t x i fun v => k v h nx) (OutO P fl fd env h nx (.index t x i) k) := by
  refine (eO_ok m env x _).out fun u hu => (eA_ok m env i _).out fun v hv => (indexV_ok hΓ m t u v _).out fun r hr => PureOk.out fun ρ n a he w d ty pos aft g => ?_
  obtain ⟨z, h1, h2⟩ := hr ρ _ _ (hu ρ n a he) (hv ρ n a he) w
  exact ⟨z, by simp [execOp, h1], h2⟩
theorem extract_ok (m : Bool) (x : Operand) (i : Nat) : Out bad (eO bad m env x fun v => match v with | .tup vs => (match vs[i]? with | some v => k v h nx | none => bad) | _ => bad) (OutO P fl fd env h nx (.extract x i) k) := by
  refine (eO_ok m env x _).out fun v hv => ?_
  split
  · split
    · rename_i vs v hi
      refine PureOk.out fun ρ n act he w d ty pos aft g => ?_
      have hx := hv ρ n act he
      generalize hc : act.eval x = z at hx
      cases hx with
      | tup _ xs hl hall =>
        have hlt : i < xs.length := by rw [← hl]; exact (List.getElem?_eq_some_iff.1 hi).1
        refine ⟨xs[i], ?_, hall i _ _ hi (List.getElem?_eq_getElem hlt)⟩
        simp [execOp, hc, Instr.extract, List.getElem?_eq_getElem hlt]
    · exact .inl rfl
  · exact .inl rfl
theorem sl2arr_ok {Γ : Ctx} (hΓ : ∀ t ti, Γ.ty.get t = some ti → TyOk P t ti) (m : Bool) (t : TypeId) (x : Operand) :
    Out bad (tyK bad Γ t fun ti => eA bad m env x fun a => match ti.k with
    | .ar n _ => lenA bad a fun l => okK bad (Nat.ble n l) (match a with | .slice b o _ _ => okK bad (Nat.blt 0 n) (k (.at (.ptr b o)) h nx) | .slu b o _ _ => okK bad (Nat.blt 0 n) (k (.at (.ptr b o)) h nx) | _ => bad)
    | _ => bad) (OutO P fl fd env h nx (.sliceToArrayPointer t x) k) := by
  refine (tyK_ok hΓ t _).out fun ti hti => (eA_ok m env x _).out fun a ha => ?_
  split
  · rename_i n e hk
    unfold lenA
    split
    · refine out_if fun h1 => out_if fun h2 => PureOk.out fun ρ n' act he w d ty pos aft g => ?_
      have h1 := Nat.le_of_ble_eq_true h1
      have h2 := blt_t h2
      have hx := ha ρ n' act he
      generalize hc : act.eval x = z at hx
      cases hx with
      | slice _ _ _ _ o' p hp hn hcm ho =>
        have ho : o' = p.sh + _ := ho.resolve_right (by omega)
        subst ho
        refine ⟨_, ?_, .at _ _ (.ptr _ _ p hp)⟩
        simp [execOp, hc, Instr.arrayAt, underlying, hti.ar hk, Nat.not_lt.2 h1]
    · refine out_if fun h1 => out_if fun h2 => PureOk.out fun ρ n' act he w d ty pos aft g => ?_
      have h1 := Nat.le_of_ble_eq_true h1
      have h2 := blt_t h2
      have hx := ha ρ n' act he
      generalize hc : act.eval x = z at hx
      cases hx with
      | slu _ _ _ _ c o' p hp hn hcm ho hs =>
        have ho : o' = p.sh + _ := ho.resolve_right (by omega)
        subst ho
        refine ⟨_, ?_, .at _ _ (.ptr _ _ p hp)⟩
        simp [execOp, hc, Instr.arrayAt, underlying, hti.ar hk, Nat.not_lt.2 h1]
    · exact out_if fun _ => .inl rfl
    · exact out_if fun _ => .inl rfl
    · exact .inl rfl
  · exact .inl rfl
end
end Go.E
