/-
  QuorumNames: a closed law, reckoned out by the evaluator (compiled).
-/
import Derived.Test.YtbecokebaikhaaaGreatEy
import Derived.Test.YtbecokebaikhaaaGreatFr
namespace Go.Proofs.YtbecokebaikhaaaGreat.lawQuorumNames
open Go Go.RowKit Go.V Go.E Go.ChangeShapes Go.WideShapes Go.ChangeAt
set_option linter.unusedVariables false
set_option maxRecDepth 1000000
theorem run : callN false ctx1 true 100 0 0 5 [] .lf 0 (fun v _ _ => isT v) = true :=
  S.run_ok conT_p (fs := [5, 18, 20, 21, 22, 23, 24, 25, 26, 27, 28, 29, 53, 54, 55, 56, 57, 58, 59, 60, 61, 63, 64, 71, 72, 73, 74, 75, 94, 95, 96, 97, 98, 99, 100, 101, 102, 104, 107, 112, 113, 114, 115, 127, 128, 131, 134, 136, 137, 138, 141, 161, 162, 163, 164, 183, 202, 211, 215, 216, 66, 68, 103, 132, 135, 184, 185, 186, 187, 188, 189, 190, 191, 192, 193]) (by kernel_rfl)
theorem calls (w : World) : Calls Tryz.prog 5 #[] w (Ret fun x w' => x = .bool true ∧ Grow w w') :=
  top_ok (by kernel_rfl) ctx1_ok (fi := fiOf Tryz.f5) (by kernel_rfl) (by kernel_rfl) [] [] (fun _ => .nil) 100 run w

theorem lifted (os : Os) (started : os.Started) (H : Type) (enc : TypeId × Value → H) :
    ReturnsInHanded {} Tryz.checked os 5 .any (Rows.quorumNamesSpec.pre6 enc Tryz.prog Tryz.f5 Rows.quorumNamesRow.domain false) (Rows.quorumNamesSpec.post enc Tryz.prog Tryz.f5 false true false false) := by
  refine returnsInHanded_of_change (C := Tryz.checked) godebug_own started (by kernel_rfl) Tryz.func5
    (ChangeSpec.witness6 (enc := enc) (C := Tryz.checked) false ⟨#[], #[], []⟩ 8 (by kernel_rfl) (by kernel_rfl) (by kernel_rfl) (by kernel_rfl)) ?_
  intro W base args ds gs before hval0 hW hcnd _
  have hW' := hW
  obtain ⟨p, q, hA0, hV, rfl, hfz, hnd⟩ := hW
  have hA : DataW.TrodAll enc Tryz.prog W 0 (fun _ => true) true Tryz.f5.params.toList args.toList ds p := hA0
  have hAll := hA
  rw [Tryz.params5] at hA
  obtain ⟨hargs, rfl, rfl⟩ := trodAll_nil hA
  obtain rfl : args = #[] := by cases args; simp_all
  obtain ⟨rfl, rfl⟩ := trodVars_none hV
  clear hA0 hval0
  refine (calls W).mono fun e W' ⟨v, he, hv, hg⟩ => ?_
  subst he; subst hv
  exact ⟨_, rfl, _, _, _, [], _, [], hW', trodAll_mk1 (shut_bool Tryz.underlying4 _), kept_all laid_out hg.1 _ _ _ _ (by kernel_rfl) hAll, rfl, hg.1.frame _, fun h => by cases h⟩

theorem proved : Rows.QuorumNamesSaid :=
  OpenClaim.holds_of_wide 5 Tryz.f5 rfl rfl rfl rfl rfl rfl rfl ⟨rfl, rfl, rfl, rfl, rfl⟩ rfl rfl rfl rfl rfl (by kernel_rfl) Tryz.func5 (by kernel_rfl)
    (of_decide_eq_true (by kernel_rfl)) (by unfold Func.isWrapper; first | (rw [if_pos (by decide +kernel)]; kernel_rfl) | (rw [if_neg (by decide +kernel)]; exact ⟨rfl, rfl⟩))
    (fun os started H enc _ => lifted os started H enc)
end Go.Proofs.YtbecokebaikhaaaGreat.lawQuorumNames
