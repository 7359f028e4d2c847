/-
  E, tenth text: what an operation does: literals, append, copy.
-/
import Derived.Test.YtbecokebaikhaaaGreatEi
namespace Go.E
open Go Go.RowKit Go.V
set_option linter.unusedVariables false
set_option linter.unusedSimpArgs false
theorem putAt_over : ∀ (xs cs : List Value) (o : Nat), o + xs.length ≤ cs.length → putAt cs o xs = over cs o xs
  | [], cs, o, h => by simp [putAt, over]
  | x :: xs, cs, o, h => by
    have hlt : o < cs.length := by simp at h; omega
    obtain ⟨A, c, B, rfl, hA⟩ : ∃ A c B, cs = A ++ c :: B ∧ A.length = o := ⟨cs.take o, cs[o], cs.drop (o + 1), by rw [← List.drop_eq_getElem_cons hlt, List.take_append_drop], by rw [List.length_take]; omega⟩
    have e : (A ++ c :: B).set o x = A ++ x :: B := by rw [List.set_append_right _ _ (by omega), hA, Nat.sub_self]; rfl
    show putAt ((A ++ c :: B).set o x) (o + 1) xs = _
    rw [e, putAt_over xs (A ++ x :: B) (o + 1) (by simp at h ⊢; omega)]
    unfold over
    subst hA
    have t1 : (A ++ x :: B).take (A.length + 1) = A ++ [x] := by
      rw [show A ++ x :: B = (A ++ [x]) ++ B by simp, List.take_append_of_le_length (by simp), List.take_of_length_le (by simp)]
    have d1 : ∀ y : Value, (A ++ y :: B).drop (A.length + 1 + xs.length) = B.drop xs.length := by
      intro y
      rw [List.drop_append, List.drop_eq_nil_of_le (by omega), List.nil_append, show A.length + 1 + xs.length - A.length = xs.length + 1 by omega, List.drop_succ_cons]
    rw [t1, d1, List.take_append_of_le_length (Nat.le_refl _), List.take_of_length_le (Nat.le_refl _), List.length_cons, show A.length + (xs.length + 1) = A.length + 1 + xs.length by omega, d1]
    simp
section
variable {R : Type} {bad : R} {P : Program} {fl fd : Nat} {env : En} {h : H} {nx : Nat} {o : Op} {k : V → H → Nat → R}
theorem out_ok1 {b : Bool} {e : R} {α : Type} {k : α → R} {Q : α → Prop} (h : b = true → Ok1 bad e k Q) : Ok1 bad (okK bad b e) k Q := by
  cases b with
  | false => exact .inl rfl
  | true => exact h rfl
theorem fillK_ok {Γ : Ctx} (hΓ : ∀ t ti, Γ.ty.get t = some ti → TyOk P t ti) (m : Bool) (pl : Nat → (Nat → Nat → R) → R) (PL : Nat → Option (Nat × Nat))
    (hpl : ∀ (i : Nat) (j : Nat → Nat → R), Ok2 bad (pl i j) j fun o t => ∀ ti, TyOk P t ti → PL i = some (o, ti.size)) :
    ∀ (ps : List (Nat × Operand)) (r : Rope) (k : Rope → R), Ok1 bad (fillK bad Γ m env pl ps r k) k fun r' => ∀ ρ n a, EnvOk ρ n env a → ∀ cs, RR ρ r cs →
      ∃ cs', Instr.fill PL cs.toArray (ps.map fun x => (x.1, a.eval x.2)) = some cs'.toArray ∧ RR ρ r' cs'
  | [], r, k => .inr ⟨r, fun ρ n a he cs hr => ⟨cs, rfl, hr⟩, rfl⟩
  | (i, x) :: ps, r, k => by
    unfold fillK
    rcases hpl i (fun o t => tyK bad Γ t fun ti => eO bad m env x fun v => ropeK bad v fun q => okK bad (Nat.beq q.len ti.size) (r.upd bad m o ti.size q fun r => fillK bad Γ m env pl ps r k)) with e | ⟨o, t, hp, e⟩
    · exact .inl e
    · rw [e]
      refine (tyK_ok hΓ t _).bind fun ti hti => (eO_ok m env x _).bind fun v hv => (ropeK_ok v _).bind fun q hq => out_ok1 fun hc => ?_
      have hc := Nat.eq_of_beq_eq_true hc
      refine (upd_ok bad m r o ti.size q _).bind fun r1 hr1 => (fillK_ok hΓ m pl PL hpl ps r1 k).mono fun r' hr' ρ n a he cs hr => ?_
      have hx := hq ρ _ (hv ρ n a he)
      have hlen : (a.eval x).cells.toList.length = ti.size := by rw [← hx.len, hc]
      obtain ⟨h1, h2⟩ := hr1 ρ cs _ hr hx hlen
      obtain ⟨cs', h3, h4⟩ := hr' ρ n a he _ h2
      refine ⟨cs', ?_, h4⟩
      have hsz : (a.eval x).cells.size = ti.size := by rw [← hlen]; simp
      have hnot : ¬ (o + ti.size > cs.toArray.size) := by simp; omega
      simp only [List.map_cons, Instr.fill, hp ti hti, hsz, ne_eq, not_true_eq_false, decide_false, Bool.false_or, decide_eq_true_eq, if_neg hnot]
      have e0 := foldl_set_eq o (a.eval x).cells.toList 0 cs
      have e2 : (a.eval x).cells.zipIdx.foldl (fun cs (x : Value × Nat) => cs.setIfInBounds (o + x.2) x.1) cs.toArray = (over cs o (a.eval x).cells.toList).toArray := by
        rw [← putAt_over _ _ _ (by rw [hlen]; exact h1), ← Nat.add_zero o, ← e0, ← Array.foldl_toList]
        congr 1
        simp
      simp only [e2]
      exact h3
/-- Zero values in a row. -/
theorem flat_zero {Z : List Value} {s n : Nat} (hZ : Z.length = s) : (List.range (n * s)).map (fun i => Z[i % s]!) = (List.replicate n Z).flatten := by
  induction n with
  | zero => simp
  | succ n ih =>
    rw [Nat.succ_mul, List.range_add, List.map_append, ih, List.replicate_succ', List.flatten_append]
    congr 1
    simp only [List.flatten_cons, List.flatten_nil, List.append_nil, List.map_map]
    apply List.ext_getElem?
    intro i
    simp only [List.getElem?_map, Function.comp]
    rcases Nat.lt_or_ge i s with hi | hi
    · have hi' : i < Z.length := by omega
      rw [List.getElem?_range hi]
      simp only [Option.map_some]
      have e : (n * s + i) % s = i := by rw [Nat.add_comm, Nat.add_mul_mod_self_right, Nat.mod_eq_of_lt hi]
      show some (Z[(n * s + i) % s]!) = _
      rw [e, List.getElem?_eq_getElem hi', getElem!_pos Z i hi']
    · rw [List.getElem?_eq_none (by simpa using hi), List.getElem?_eq_none (by omega)]; rfl
theorem replR_ok {ρ : Plc} {r : Rope} {Z : List Value} {z : Nat} (hr : RR ρ r Z) (hz : Z.length = z) : ∀ n, RR ρ (replR n z r) (List.replicate n Z).flatten
  | 0 => by simpa [bcells, replR] using RR.bys (ρ := ρ) 0 0 (by decide)
  | 1 => by simpa [replR] using hr
  | n + 2 => by
    have ih := replR_ok hr hz (n + 1)
    rw [List.replicate_succ, List.flatten_cons]
    exact .nds _ _ _ _ _ hr ih hz
theorem zerosR_ok {ρ : Plc} {te : TI} {Z : List Value} (hr : RR ρ te.zero Z) (hz : Z.length = te.size) (n : Nat) : RR ρ (zerosR n te) (List.replicate n Z).flatten := by
  have hlen : (List.replicate n Z).flatten.length = n * te.size := by simp [hz]
  unfold zerosR
  split
  · rename_i z s he
    cases hs : Nat.beq s 0 with
    | false => exact replR_ok (he ▸ hr) hz n
    | true =>
      have hs := Nat.eq_of_beq_eq_true hs
      subst hs
      rw [he] at hr
      have hl := hr.len
      simp only [Rope.len] at hl
      cases hr with
      | bys _ _ _ =>
        have e : (List.replicate n (bcells z 0)).flatten = bcells (n * z) 0 := by
          rw [bcells_zero, bcells_zero]
          refine List.eq_replicate_iff.2 ⟨by simp, fun v hv => ?_⟩
          simp only [List.mem_flatten, List.mem_replicate] at hv
          obtain ⟨l, ⟨_, rfl⟩, hl⟩ := hv
          exact (List.mem_replicate.1 hl).2
        show RR ρ (.by (n * z) 0) _
        rw [e]
        exact .bys _ _ (Nat.pow_pos (by decide))
  · rename_i z a he
    rw [he] at hr
    cases hr with
    | rps _ _ _ hl hv =>
      have hall : ∀ v ∈ (List.replicate n Z).flatten, AR ρ a v := fun v hm => by
        simp only [List.mem_flatten, List.mem_replicate] at hm
        obtain ⟨l, ⟨_, rfl⟩, hm⟩ := hm
        exact hv v hm
      cases h1 : Nat.beq z 1 with
      | true =>
        have h1 := Nat.eq_of_beq_eq_true h1
        exact .rps _ _ _ (by rw [hlen, ← hz, hl, h1, Nat.mul_one]) hall
      | false => exact .rps _ _ _ (by rw [hlen, ← hz, hl]; rfl) hall
  · exact replR_ok hr hz n
inductive VRs (ρ : Plc) : List V → List Value → Prop
  | nil : VRs ρ [] []
  | cons (v : V) (x : Value) (vs : List V) (xs : List Value) (h : VR ρ v x) (hs : VRs ρ vs xs) : VRs ρ (v :: vs) (x :: xs)
theorem eOs_ok (m : Bool) (env : En) : ∀ (xs : List Operand) (k : List V → R), Ok1 bad (eOs bad m env xs k) k fun vs => ∀ ρ n a, EnvOk ρ n env a → VRs ρ vs (xs.map a.eval)
  | [], k => .inr ⟨[], fun _ _ _ _ => .nil, rfl⟩
  | x :: xs, k => by
    unfold eOs
    exact (eO_ok m env x _).bind fun v hv => (eOs_ok m env xs _).bind fun vs hvs => .inr ⟨_, fun ρ n a he => .cons _ _ _ _ (hv ρ n a he) (hvs ρ n a he), rfl⟩
theorem lenA_ok (a : A) (k : Nat → R) : Ok1 bad (lenA bad a k) k fun n => ∀ ρ x, AR ρ a x → ∀ w, (Builtin.lenOf x).run P w = .ok n w := by
  unfold lenA
  split
  · exact .inr ⟨_, fun ρ x hx w => by cases hx; simp [Builtin.lenOf], rfl⟩
  · exact .inr ⟨_, fun ρ x hx w => by cases hx; simp [Builtin.lenOf], rfl⟩
  · exact .inr ⟨_, fun ρ x hx w => by cases hx; simp [Builtin.lenOf], rfl⟩
  · exact .inr ⟨_, fun ρ x hx w => by cases hx with | str y _ _ h1 h2 => simp [Builtin.lenOf, h1], rfl⟩
  · exact .inl rfl
theorem srcK_ok (m : Bool) (a : A) (z n : Nat) (k : Rope → R) : Ok1 bad (srcK bad m h a z n k) k fun q => ∀ ρ w x, Rel ρ h.get nx w → AR ρ a x →
    ∃ cs, RR ρ q cs ∧ cs.length = n * z ∧ ∀ w', w'.heap = w.heap → (Builtin.firstCells z n x).run P w' = .ok (List.toArray cs) w' := by
  have slice : ∀ (b o : Nat) (p : Pl) (ρ : Plc) (w : World) (r r' : Rope) (t : TypeId) (o' l cap : Nat), Rel ρ h.get nx w → ρ b = some p → h.get b = some (.cells t r) → (o' = p.sh + o ∨ n = 0) →
      (∀ ρ cs, RR ρ r cs → o + n * z ≤ cs.length ∧ RR ρ r' ((cs.drop o).take (n * z))) → ∃ cs, RR ρ r' cs ∧ cs.length = n * z ∧ ∀ w', w'.heap = w.heap → (Builtin.firstCells z n (.slice (some ⟨p.blk, o', none⟩) l cap)).run P w' = .ok (List.toArray cs) w' := by
    intro b o p ρ w r r' t o' l cap hr hp hb ho hsub
    obtain ⟨arr, fr, cs, h1, h2, h3, h4, h5⟩ := hr.cells hb hp
    obtain ⟨hl, hrr⟩ := hsub ρ cs h3
    have hlen : ((cs.drop o).take (n * z)).length = n * z := by rw [List.length_take, List.length_drop]; omega
    refine ⟨_, hrr, hlen, fun w' hw => run_firstCells_some w' z n _ l cap _ hlen fun j v hj => ?_⟩
    rcases ho with ho | ho
    · rw [List.getElem?_take] at hj
      split at hj
      · rw [List.getElem?_drop] at hj
        subst ho
        have := h4 _ _ hj
        exact cell_at (by rw [hw]; exact h1) (by rw [Nat.add_assoc]; exact this)
      · cases hj
    · subst ho
      simp at hj
  unfold srcK
  split
  · rename_i b o l c
    refine out_ok1 fun hc => ?_
    have hc := Nat.le_of_ble_eq_true hc
    rcases cellsK_ok (bad := bad) h b (fun _ r => r.sub bad m o (Nat.mul n z) k) with e | ⟨t, r, hb, e⟩
    · exact .inl e
    · rw [e]
      refine (sub_ok bad m r o (Nat.mul n z) k).mono fun q hq ρ w x hr hx => ?_
      cases hx with
      | slice _ _ _ _ o' p hp hn hcm ho => exact slice b o p ρ w r q t o' l c hr hp hb (ho.imp id (fun h => by omega)) hq
  · rename_i b o l z'
    refine out_ok1 fun hc => ?_
    obtain ⟨_, hc⟩ := two_t hc
    have hc := Nat.le_of_ble_eq_true hc
    rcases cellsK_ok (bad := bad) h b (fun _ r => r.sub bad m o (Nat.mul n z) k) with e | ⟨t, r, hb, e⟩
    · exact .inl e
    · rw [e]
      refine (sub_ok bad m r o (Nat.mul n z) k).mono fun q hq ρ w x hr hx => ?_
      cases hx with
      | slu _ _ _ _ c o' p hp hn hcm ho hs => exact slice b o p ρ w r q t o' l c hr hp hb (ho.imp id (fun h => by omega)) hq
  · refine out_ok1 fun hc => ?_
    have hc := Nat.eq_of_beq_eq_true hc
    subst hc
    refine .inr ⟨_, fun ρ w x hr hx => ⟨[], by simpa [bcells] using RR.bys (ρ := ρ) 0 0 (by decide), by simp, fun w' hw => ?_⟩, rfl⟩
    cases hx
    simp [Builtin.firstCells]
  · rename_i l s
    refine out_ok1 fun hc => ?_
    obtain ⟨hz, hc⟩ := two_t hc
    have hz := Nat.eq_of_beq_eq_true hz
    have hc := Nat.le_of_ble_eq_true hc
    subst hz
    rw [natK_eq]
    refine .inr ⟨_, fun ρ w x hr hx => ?_, rfl⟩
    cases hx with
    | str y _ _ hn hs =>
      refine ⟨bcells n (lo8 s n), .bys _ _ (by rw [lo8_eq]; exact Nat.mod_lt _ (Nat.pow_pos (by decide))), by rw [length_bcells]; omega, fun w' hw => ?_⟩
      have hl : n ≤ y.data.toList.length := by rw [Array.length_toList]; show n ≤ y.size; omega
      simp only [Builtin.firstCells, Sem.run_pure]
      congr 1
      apply Array.ext'
      simp only [ByteArray.data_extract, Array.toList_map, Array.toList_extract, List.extract_eq_take_drop, List.drop_zero, Nat.sub_zero]
      apply List.ext_getElem?
      intro i
      rcases Nat.lt_or_ge i n with hi | hi
      · rw [bcells_get hi, List.getElem?_map, List.getElem?_take, if_pos hi]
        have hil : i < y.data.toList.length := by omega
        rw [List.getElem?_eq_getElem hil]
        simp only [Option.map_some]
        have e : byteAt (lo8 s n) i = (y.data.toList[i]).toNat := by
          unfold byteAt
          rw [lo8_eq, ← hs]
          have := byteAt_sub (s := packB y.data.toList) (o := 0) (c := n) (i := i) hi
          unfold byteAt at this
          rw [Nat.pow_zero, Nat.div_one, Nat.zero_add] at this
          rw [this]
          exact packB_get (List.getElem?_eq_getElem hil)
        rw [e]
      · rw [List.getElem?_eq_none (by rw [List.length_map, List.length_take]; omega), List.getElem?_eq_none (by rw [length_bcells]; exact hi)]
  · exact .inl rfl
end
end Go.E
