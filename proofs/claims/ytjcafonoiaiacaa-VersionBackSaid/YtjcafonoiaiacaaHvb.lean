/-
  VersionBack: for every input the law returns true, and its arguments read as they did.
-/
import Derived.Test.YtjcafonoiaiacaaOm
import Derived.Test.YtjcafonoiaiacaaFr
namespace Go.Proofs.Ytjcafonoiaiacaa.lawVersionBack
open Go Go.RowKit Go.V Go.ChangeShapes Go.WideShapes Go.ChangeAt
set_option linter.unusedVariables false
theorem bytes_of_ints : ∀ (l : List Int), (∀ z ∈ l, (Lit.int .u8 z).wf = true) → ∃ r : List Nat, l.map (Value.int .u8) = bys r ∧ ∀ x ∈ r, x < 256
  | [], _ => ⟨[], rfl, by simp⟩
  | z :: l, h => by
    obtain ⟨r, h1, h2⟩ := bytes_of_ints l (fun y hy => h y (List.mem_cons_of_mem _ hy))
    have hz := h z (by simp)
    have hz2 : 0 ≤ z ∧ z ≤ 255 := by simpa [Lit.wf, IntKind.min, IntKind.max, IntKind.signed, IntKind.bits] using hz
    refine ⟨z.toNat :: r, ?_, ?_⟩
    · simp only [List.map_cons, bys, h1]
      congr 2
      omega
    · intro x hx
      rcases List.mem_cons.1 hx with rfl | hx
      · omega
      · exact h2 x hx
theorem cells_sl {H : Type} {enc : TypeId × Value → H} {P : Program} {w : World} {r : Reach} {b0 : Nat} {t e : TypeId} {v : Value} {d : DataW H} {ps : List MemPlace} (ht : P.underlying t = some (.slice e)) (hval : Value.okWide P w r b0 t v) (hd : DataW.Trod enc P w 0 (fun _ => true) true t v d ps) :
    ∃ fuel, DataW.trod enc P w 0 (fun _ => true) true fuel t [v] = some (d, ps) := by
  obtain ⟨fuel, hf⟩ := hd
  refine ⟨fuel, ?_⟩
  have : v.cells.toList = [v] := by
    simp only [Value.okWide, ht, Cell.okWide] at hval
    cases v <;> simp_all [Cell.ok, Value.cells]
  rwa [this] at hf
set_option maxRecDepth 100000 in
theorem lifted (os : Os) (started : os.Started) (H : Type) (enc : TypeId × Value → H) :
    ReturnsInHanded {} Try.checked os 4 .any (Rows.versionBackSpec.pre6 enc Try.prog Try.f4 Rows.versionBackRow.domain false) (Rows.versionBackSpec.post enc Try.prog Try.f4 false true false false) := by
  refine returnsInHanded_of_change (C := Try.checked) godebug_own started (by kernel_rfl) Try.func4
    (ChangeSpec.witness6 (enc := enc) (C := Try.checked) false ⟨#[], #[.agg #[.int .i64 0, .slice none 0 0], .slice none 0 0], []⟩ 8 (by kernel_rfl) (by kernel_rfl) (by kernel_rfl) (by kernel_rfl)) ?_
  intro W base args ds gs before hval0 hW hcnd _
  have hval : ∀ (j : Nat) t v, Try.f4.params[j]? = some t → args[j]? = some v → Value.okWide Try.prog W .any base t v := hval0
  have hW' := hW
  obtain ⟨p, q, hA0, hV, rfl, hfz, hnd⟩ := hW
  have hA : DataW.TrodAll enc Try.prog W 0 (fun _ => true) true Try.f4.params.toList args.toList ds p := hA0
  have hAll := hA
  rw [Try.params4] at hA hval
  obtain ⟨v0, vs0, d0, ds0, p0, q0, hargs, rfl, rfl, h0, r0⟩ := trodAll_cons hA
  obtain ⟨v1, vs1, d1, ds1, p1, q1, rfl, rfl, rfl, h1, r1⟩ := trodAll_cons r0
  obtain ⟨rfl, rfl, rfl⟩ := trodAll_nil r1
  obtain rfl : args = #[v0, v1] := by cases args; simp_all
  obtain ⟨rfl, rfl⟩ := trodVars_none hV
  obtain ⟨c0, c1, y0, y1, m, rfl, hd0, hp0, hy0, hy1⟩ := Joins.open_agg2 Try.underlying24 (by kernel_rfl) (by kernel_rfl) (hval 0 24 v0 rfl rfl) h0
  obtain ⟨b, e0, _, wb⟩ := DataW.trod_int Try.underlying3 hy0
  simp only [List.cons.injEq, and_true] at e0
  subst e0
  obtain ⟨a, n, c, l, rfl, hs, hl⟩ := sl_in Try.underlying22 Try.underlying3 (by kernel_rfl) hy1
  obtain ⟨fu, hy2⟩ := cells_sl Try.underlying37 (hval 1 37 v1 rfl rfl) h1
  obtain ⟨a2, n2, c2, l2, rfl, hs2, hl2⟩ := sl_in Try.underlying37 Try.underlying5 (by kernel_rfl) hy2
  obtain ⟨r, hr1, hr2⟩ := bytes_of_ints l2 hl2
  rw [hr1] at hs2
  clear hA0 hval0
  have rng : ∀ z, (Lit.int .i64 z).wf = true → -9223372036854775808 ≤ z ∧ z ≤ 9223372036854775807 := by
    intro z hz; simpa [Lit.wf, IntKind.min, IntKind.max, IntKind.signed, IntKind.bits] using hz
  refine (vback_c _ _ b a n c l a2 n2 c2 r W hs hs2 (rng _ wb) (fun x hx => (rng _ (hl x hx)).2) hr2).mono fun e W' ⟨v, he, hv, hg⟩ => ?_
  subst he; subst hv
  exact ⟨_, rfl, _, _, _, [], _, [], hW', trodAll_mk1 (shut_bool Try.underlying4 _), kept_all laid_out hg.1 _ _ _ _ (by kernel_rfl) hAll, rfl, hg.1.frame _, fun h => by cases h⟩
theorem proved : Rows.VersionBackSaid :=
  OpenClaim.holds_of_wide 4 Try.f4 rfl rfl rfl rfl rfl rfl rfl ⟨rfl, rfl, rfl, rfl, rfl⟩ rfl rfl rfl rfl rfl (by kernel_rfl) Try.func4 (by kernel_rfl)
    (of_decide_eq_true (by kernel_rfl)) (by unfold Func.isWrapper; first | (rw [if_pos (by decide +kernel)]; kernel_rfl) | (rw [if_neg (by decide +kernel)]; exact ⟨rfl, rfl⟩))
    (fun os started H enc _ => lifted os started H enc)
end Go.Proofs.Ytjcafonoiaiacaa.lawVersionBack
