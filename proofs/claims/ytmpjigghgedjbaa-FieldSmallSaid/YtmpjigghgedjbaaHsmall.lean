/-
  FieldSmall: the law returns true.
-/
import Derived.Test.YtmpjigghgedjbaaGe
import Derived.Test.YtmpjigghgedjbaaHa
namespace Go.Proofs.Ytmpjigghgedjbaa.lawSmall
open Go Go.RowKit Go.V Go.ChangeShapes Go.WideShapes Go.ChangeAt
set_option linter.unusedVariables false

set_option maxRecDepth 100000 in
theorem lifted (os : Os) (started : os.Started) (H : Type) (enc : TypeId × Value → H) :
    ReturnsInHanded {} Try.checked os 8 .any (Rows.fieldSmallSpec.pre6 enc Try.prog Try.f8 Rows.fieldSmallRow.domain false) (Rows.fieldSmallSpec.post enc Try.prog Try.f8 false true false false) := by
  refine returnsInHanded_of_change (C := Try.checked) godebug_own started (by kernel_rfl) Try.func8
    (ChangeSpec.witness6 (enc := enc) (C := Try.checked) false ⟨#[], #[.int .u32 0, .int .u32 0], []⟩ 8 (by kernel_rfl) (by kernel_rfl) (by kernel_rfl) (by kernel_rfl)) ?_
  intro W base args ds gs before hval0 hW hcnd _
  have hval : ∀ (j : Nat) t v, Try.f8.params[j]? = some t → args[j]? = some v → Value.okWide Try.prog W .any base t v := hval0
  have hW' := hW
  obtain ⟨p, q, hA0, hV, rfl, hfz, hnd⟩ := hW
  have hA : DataW.TrodAll enc Try.prog W 0 (fun _ => true) true Try.f8.params.toList args.toList ds p := hA0
  have hAll := hA
  rw [Try.params8] at hA hval
  obtain ⟨v0, vs0, d0, ds0, p0, q0, hargs, rfl, rfl, h0, r0⟩ := trodAll_cons hA
  obtain ⟨v1, vs1, d1, ds1, p1, q1, rfl, rfl, rfl, h1, r1⟩ := trodAll_cons r0
  obtain ⟨rfl, rfl, rfl⟩ := trodAll_nil r1
  obtain rfl : args = #[v0, v1] := by cases args; simp_all
  obtain ⟨rfl, rfl⟩ := trodVars_none hV
  obtain ⟨z0, rfl, hd0, hp0, wz0⟩ := open_int Try.underlying24 (hval 0 24 v0 rfl rfl) h0
  have bz0 := bounds_u32 wz0
  obtain ⟨N0, rfl⟩ : ∃ m : Nat, z0 = (m : Int) := ⟨z0.toNat, by omega⟩
  obtain ⟨z1, rfl, hd1, hp1, wz1⟩ := open_int Try.underlying24 (hval 1 24 v1 rfl rfl) h1
  have bz1 := bounds_u32 wz1
  obtain ⟨N1, rfl⟩ : ∃ m : Nat, z1 = (m : Int) := ⟨z1.toNat, by omega⟩
  clear hA0 hval0
  refine (small_c N0 N1 (by omega) (by omega) W).mono fun e W' ⟨v, he, hv, hg⟩ => ?_
  subst he; subst hv
  exact ⟨_, rfl, _, _, _, [], _, [], hW', trodAll_mk1 (shut_bool Try.underlying4 _), kept_all laid_out hg.1 _ _ _ _ (by kernel_rfl) hAll, rfl, hg.1.frame _, fun h => by cases h⟩

theorem proved : Rows.FieldSmallSaid :=
  OpenClaim.holds_of_wide 8 Try.f8 rfl rfl rfl rfl rfl rfl rfl ⟨rfl, rfl, rfl, rfl, rfl⟩ rfl rfl rfl rfl rfl (by kernel_rfl) Try.func8 (by kernel_rfl)
    (of_decide_eq_true (by kernel_rfl)) (by unfold Func.isWrapper; first | (rw [if_pos (by decide +kernel)]; kernel_rfl) | (rw [if_neg (by decide +kernel)]; exact ⟨rfl, rfl⟩))
    (fun os started H enc _ => lifted os started H enc)
end Go.Proofs.Ytmpjigghgedjbaa.lawSmall
