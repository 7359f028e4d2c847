/-
  E, thirteenth text: what an operation does: literals, new slices, conversions.
-/
import Derived.Test.YtbecokebaikhaaaGreatEl
namespace Go.E
open Go Go.RowKit Go.V
set_option linter.unusedVariables false
set_option linter.unusedSimpArgs false
section
variable {R : Type} {bad : R} {P : Program} {fl fd : Nat} {env : En} {h : H} {nx : Nat} {o : Op} {k : V → H → Nat → R}
theorem run_places {F : Array Field} (hF : ∀ f ∈ F.toList, (P.info? f.type).isSome = true) (w : World) : (F.mapM fun f => do pure (f.offset, ← sizeOf f.type) : Sem (Array (Nat × Nat))).run P w = .ok (F.toList.map fun f => (f.offset, ((P.info? f.type).map (·.size)).getD 0)).toArray w := by
  rw [Array.mapM_eq_foldlM]
  have key : ∀ (l : List Field) (acc : Array (Nat × Nat)), (∀ f ∈ l, (P.info? f.type).isSome = true) →
      (l.foldlM (fun bs f => bs.push <$> (do pure (f.offset, ← sizeOf f.type) : Sem (Nat × Nat))) acc).run P w = .ok (acc ++ (l.map (fun f => (f.offset, ((P.info? f.type).map (·.size)).getD 0))).toArray) w := by
    intro l
    induction l with
    | nil => intro acc _; simp
    | cons f l ih =>
      intro acc hl
      obtain ⟨i, hi⟩ := Option.isSome_iff_exists.1 (hl f (by simp))
      simp only [List.foldlM_cons, Sem.run_bind, Sem.run_map, sizeOf, typeInfo, run_program, Result.andThen_ok, hi, Sem.run_pure]
      have := ih (acc.push (f.offset, i.size)) (fun g hg => hl g (by simp [hg]))
      simp only [sizeOf, typeInfo] at this
      rw [this]
      simp [hi]
  rw [← Array.foldlM_toList]
  rw [key F.toList #[] hF]
  simp
theorem zero_cells {z : Value} {n s : Nat} (hz : z.cells.size = s) : (Array.range (n * s)).map (fun i => z.cells[i % z.cells.size]!) = (List.replicate n z.cells.toList).flatten.toArray := by
  rw [← flat_zero (Z := z.cells.toList) (s := s) (by simpa using hz)]
  apply Array.ext'
  simp only [Array.toList_map, Array.toList_range, hz]
  exact List.map_congr_left fun a _ => by rw [Array.getElem!_toList]
theorem zero_flat {ρ : Plc} {te : TI} {z : Value} (h : RR ρ te.zero z.cells.toList) (hz : z.cells.size = te.size) (n : Nat) : RR ρ (zerosR n te) (List.replicate n z.cells.toList).flatten := zerosR_ok h (by simpa using hz) n
theorem build_ok {Γ : Ctx} (hΓ : ∀ t ti, Γ.ty.get t = some ti → TyOk P t ti) (m : Bool) (t : TypeId) (ps : Array (Nat × Operand)) : Out bad (buildK bad Γ m env t ps.toList fun v => k v h nx) (OutO P fl fd env h nx (.build t ps) k) := by
  unfold buildK
  refine (tyK_ok hΓ t _).out fun ti hti => ?_
  have hmap : ∀ (a : Act), (ps.map fun (i, x) => (i, a.eval x)).toList = ps.toList.map fun x => (x.1, a.eval x.2) := fun a => by simp
  split
  · rename_i fs hk
    obtain ⟨F, hu, hfs⟩ := hti.st hk
    refine (fillK_ok (env := env) hΓ m _ (fun i => ((F.toList.map fun f => (f.offset, ((P.info? f.type).map (·.size)).getD 0)).toArray)[i]?) (fun i j => ?_) ps.toList ti.zero _).out fun r hr => PureOk.out fun ρ n a he w d ty pos aft g => ?_
    · split
      · rename_i off ft hi
        refine .inr ⟨off, ft, fun ti' hti' => ?_, rfl⟩
        rw [← hfs] at hi
        simp only [List.getElem?_map] at hi
        cases hf : F.toList[i]? with
        | none => rw [hf] at hi; cases hi
        | some fdd =>
          rw [hf] at hi
          cases hi
          obtain ⟨inf, z, hi1, hi2, _⟩ := hti'.i
          simp only [List.getElem?_toArray, List.getElem?_map, hf, Option.map_some, hi1, Option.getD_some, hi2]
      · exact .inl rfl
    · obtain ⟨z, hz1, hz2, hz3, hz4⟩ := hti.run_zero w
      obtain ⟨cs', h1, h2⟩ := hr ρ n a he _ (hz4 ρ)
      refine ⟨.agg cs'.toArray, ?_, .agg _ _ h2⟩
      have hpl := run_places (hti.fs F hu) w
      simp only [execOp, Instr.build, Sem.run_bind, hz1, Result.andThen_ok, underlying, run_program, hu, Sem.run_pure, hpl, hmap]
      simp only [Array.toArray_toList] at h1
      rw [h1]
      rfl
  · rename_i len e hk
    refine (tyK_ok hΓ e _).out fun te hte => ?_
    refine (fillK_ok (env := env) hΓ m _ (fun i => some (i * te.size, te.size)) (fun i j => .inr ⟨i * te.size, e, fun ti' hti' => ?_, rfl⟩) ps.toList ti.zero _).out fun r hr => PureOk.out fun ρ n a he w d ty pos aft g => ?_
    · obtain ⟨i1, z1, a1, a2, _⟩ := hti'.i
      obtain ⟨i2, z2, b1, b2, _⟩ := hte.i
      rw [a1] at b1
      cases b1
      rw [← a2, b2]
    · obtain ⟨z, hz1, hz2, hz3, hz4⟩ := hti.run_zero w
      obtain ⟨cs', h1, h2⟩ := hr ρ n a he _ (hz4 ρ)
      refine ⟨.agg cs'.toArray, ?_, .agg _ _ h2⟩
      simp only [execOp, Instr.build, Sem.run_bind, hz1, Result.andThen_ok, underlying, run_program, hti.ar hk, Sem.run_pure, hte.run_size, hmap]
      simp only [Array.toArray_toList] at h1
      rw [h1]
      rfl
  · exact .inl rfl
theorem buildSlice_ok {Γ : Ctx} (hΓ : ∀ t ti, Γ.ty.get t = some ti → TyOk P t ti) (m : Bool) (t : TypeId) (len : Nat) (ps : Array (Nat × Operand)) :
    Out bad (tyK bad Γ t fun ti => match ti.k with
    | .sl e => tyK bad Γ e fun te => okK bad (Nat.ble (Nat.mul len te.size) 16777216) (fillK bad Γ m env (fun i k => k (Nat.mul i te.size) e) ps.toList (zerosR len te) fun r => okK bad (Nat.ble len 1000000000000) (newK bad m h nx (.cells e r) fun h nx' => k (.at (.slice nx 0 len len)) h nx'))
    | _ => bad) (OutO P fl fd env h nx (.buildSlice t len ps) k) := by
  refine (tyK_ok hΓ t _).out fun ti hti => ?_
  have hmap : ∀ (a : Act), (ps.map fun (i, x) => (i, a.eval x)).toList = ps.toList.map fun x => (x.1, a.eval x.2) := fun a => by simp
  split
  · rename_i e hk
    refine (tyK_ok hΓ e _).out fun te hte => out_if fun hlim => ?_
    have hlim : len * te.size ≤ 16777216 := Nat.le_of_ble_eq_true hlim
    refine (fillK_ok (env := env) hΓ m _ (fun i => some (i * te.size, te.size)) (fun i j => .inr ⟨i * te.size, e, fun ti' hti' => ?_, rfl⟩) ps.toList _ _).out fun r hr => out_if fun hl2 => out_new m e r _ fun ρ n a w he hrel d ty pos aft g => ?_
    · obtain ⟨i1, z1, a1, a2, _⟩ := hti'.i
      obtain ⟨i2, z2, b1, b2, _⟩ := hte.i
      rw [a1] at b1
      cases b1
      rw [← a2, b2]
    · have hl2 := Nat.le_of_ble_eq_true hl2
      obtain ⟨z, hz1, hz2, hz3, hz4⟩ := hte.run_zero w
      obtain ⟨cs', h1, h2⟩ := hr ρ n a he _ (zero_flat (hz4 ρ) hz3 len)
      refine ⟨cs'.toArray, .slice (some ⟨w.heap.size, 0, none⟩) len len, cs', ?_, h2, fun i v hv => by simpa using hv, fun ρ' hp => .at _ _ ?_⟩
      · have hne : ¬ (2 ^ 24 < len * te.size) := by omega
        rw [← zero_cells hz3] at h1
        simp only [execOp, Instr.buildSlice, Sem.run_bind, underlying, run_program, hti.sl hk, Result.andThen_ok, Sem.run_pure, hte.run_size, gt_iff_lt, if_neg hne, hmap]
        by_cases h0 : len * te.size = 0
        · have e0 : ∀ f : Nat → Value, (Array.range (len * te.size)).map f = #[] := fun f => by rw [h0]; apply Array.ext'; simp
          rw [e0] at h1
          simp only [h0, if_true, Sem.run_pure, Result.andThen_ok]
          have e1 : ∀ f : Nat → Value, (Array.range 0).map f = #[] := fun f => by apply Array.ext'; simp
          simp only [pure_bind, e1, h1]
          simp [newRow]
        · simp only [h0, if_false, Sem.run_bind, hz1, Result.andThen_ok, Sem.run_pure]
          rw [h1]
          simp [newRow]
      · exact .slice nx 0 len len _ ⟨w.heap.size, 0, _⟩ hp (Nat.le_refl _) (Nat.le_trans hl2 (by decide)) (.inl rfl)
  · exact .inl rfl
theorem makeSlice_ok {Γ : Ctx} (hΓ : ∀ t ti, Γ.ty.get t = some ti → TyOk P t ti) (m : Bool) (t : TypeId) (lo co : Operand) :
    Out bad (tyK bad Γ t fun ti => match ti.k with
    | .sl e => tyK bad Γ e fun te => eA bad m env lo fun l => idxK bad l fun l => eA bad m env co fun c => idxK bad c fun c =>
        okK bad (two (two (Nat.ble l c) (Nat.ble c 1000000000000)) (Nat.ble (Nat.mul te.bytes c) 281474976710656)) (newK bad m h nx (.cells e (zerosR c te)) fun h nx' => k (.at (.slice nx 0 l c)) h nx')
    | _ => bad) (OutO P fl fd env h nx (.makeSlice t lo co) k) := by
  refine (tyK_ok hΓ t _).out fun ti hti => ?_
  split
  · rename_i e hk
    refine (tyK_ok hΓ e _).out fun te hte => (eA_ok m env lo _).out fun l' hl' => (idxK_ok l' _).out fun l hl => (eA_ok m env co _).out fun c' hc' => (idxK_ok c' _).out fun c hc => out_if fun hcond => ?_
    obtain ⟨c1, c2⟩ := two_t hcond
    obtain ⟨c0, c1⟩ := two_t c1
    have c0 := Nat.le_of_ble_eq_true c0
    have c1 := Nat.le_of_ble_eq_true c1
    have c2 : te.bytes * c ≤ 281474976710656 := Nat.le_of_ble_eq_true c2
    refine out_new m e _ _ fun ρ n a w he hrel d ty pos aft g => ?_
    obtain ⟨kl, e1⟩ := hl ρ _ (hl' ρ n a he)
    obtain ⟨kc, e2⟩ := hc ρ _ (hc' ρ n a he)
    obtain ⟨z, hz1, hz2, hz3, hz4⟩ := hte.run_zero w
    obtain ⟨inf, hi1, hi2, hi3⟩ := hte.run_info w
    refine ⟨(List.replicate c z.cells.toList).flatten.toArray, .slice (some ⟨w.heap.size, 0, none⟩) l c, _, ?_, zero_flat (hz4 ρ) hz3 c, fun i v hv => by simpa using hv, fun ρ' hp => .at _ _ ?_⟩
    · have w1 : IntKind.i64.wrap (l : Int) = (l : Int) := wrap_lo (k := .i64) (show l < 9223372036854775808 by omega)
      have w2 : IntKind.i64.wrap (c : Int) = (c : Int) := wrap_lo (k := .i64) (show c < 9223372036854775808 by omega)
      have b1 : ¬ ((c : Int) < 0) := by omega
      have b2 : ¬ (281474976710656 < (te.bytes : Int) * (c : Int)) := by
        have := Int.ofNat_le.2 c2
        rw [Int.natCast_mul] at this
        omega
      have b3 : ¬ ((l : Int) < 0) := by omega
      have b4 : ¬ ((l : Int) > (c : Int)) := by omega
      have hz3' := zero_cells (n := c) hz3
      have hz4' : ∀ zs : Array Value, (c * te.size = 0 ∨ zs = z.cells) → (Array.range (c * te.size)).map (fun i => zs[i % zs.size]!) = (List.replicate c z.cells.toList).flatten.toArray := by
        intro zs hzs
        rcases hzs with h0 | h0
        · rw [← hz3', h0]
          apply Array.ext'; simp
        · rw [h0, hz3']
      simp only [execOp, Instr.makeSlice, Sem.run_bind, underlying, run_program, hti.sl hk, Result.andThen_ok, Sem.run_pure, e1, e2, asInt, hi1, hi3, w1, w2]
      by_cases h0 : c * te.size = 0
      · have e0 : (List.replicate c z.cells.toList).flatten.toArray = #[] := by
          rw [← hz3', h0]; apply Array.ext'; simp
        rw [e0]
        have n1 : ¬ (c < l) := by omega
        have b2' := Int.not_lt.1 b2
        simp [asIntOf, hi1, hi3, w1, w2, b1, b2', b3, b4, n1, askRoom, hte.run_size, newRow, h0]
        rw [if_neg b2, show Array.map (fun _ => (default : Value)) (Array.range 0) = #[] from by apply Array.ext'; simp]
      · have n1 : ¬ (c < l) := by omega
        have b2' := Int.not_lt.1 b2
        simp [asIntOf, hi1, hi3, w1, w2, b1, b2', b3, b4, n1, askRoom, hte.run_size, newRow, h0, hz1]
        rw [if_neg b2, hz3']
    · exact .slice nx 0 l c _ ⟨w.heap.size, 0, _⟩ hp c0 (Nat.le_trans c1 (by decide)) (.inl rfl)
  · exact .inl rfl
end
end Go.E
