import Derived.Test.YtbecokebaikhaaaGreatDoorUq
import Derived.Test.YtbecokebaikhaaaGreatDoorUr
import Derived.Test.YtbecokebaikhaaaGreatDoorTie
import Derived.Test.YtbecokebaikhaaaGreatDoorCards
import Derived.LaidLaws
import Derived.LaidHandle
import Derived.LaidMore
import Derived.ChangeVars
import Derived.JoinedOf
import Derived.SevenTiedAt
import Derived.Stop.Joined
set_option linter.unusedSimpArgs false
set_option linter.unusedVariables false
set_option linter.unusedSectionVars false
namespace Go.Proofs.YtbecokebaikhaaaGreatDoor.lawTreeNames12
open Go Go.RowKit Go.V Go.E Go.ChangeShapes Go.WideShapes Go.ChangeAt
set_option maxRecDepth 1000000
attribute [local instance] glI
theorem run (t : TypeId) : callN false ctx1w true 200 1 1 (.fn 5) [] (h00 t) 1 (fun v _ _ => isT v) = true :=
  S.run_ok conTw_p (fs := [5, 13, 14, 15, 16, 17, 18, 19, 20, 21, 31, 34, 42, 45, 46, 26, 47, 48, 49, 50, 52, 51, 53, 55, 54, 56, 57, 58, 59, 41, 43, 61, 60, 62, 76, 78, 79, 98, 73, 75, 100, 37, 101, 102, 103, 104, 105, 106, 107, 108, 109, 99, 112, 110, 111, 119, 129, 130, 131, 132, 117, 118, 29, 92, 93, 134, 135, 136, 137, 138, 139, 140, 141, 142, 143, 144, 145, 146, 147, 148, 150, 149, 133, 154, 151, 153, 152, 95, 163, 164, 241, 242, 69, 70, 127, 167, 166, 165, 168, 169, 170, 171, 172, 173, 174, 175, 176, 186, 187, 177, 178, 179, 180, 181, 182, 183, 184, 185, 197, 196, 195, 243, 115, 116, 198, 199, 200, 201, 202, 203, 213, 211, 210, 212, 244, 214, 215, 220, 219]) (by kernel_rfl)
theorem gN : (Tryz.prog).globalNamed "math/bits.deBruijn64tab" = some 0 := by kernel_rfl
theorem calls (W : World) (h : laidMet Tryz.prog Rows.treeNamesRow.laid W) : Calls Tryz.prog 5 #[] W (Ret fun x w' => x = .bool true ∧ Grow W w') := by
  letI := tabOf ctx1w
  obtain ⟨t, hr⟩ := rel_laid (name := "math/bits.deBruijn64tab") (zs := tabZ) rfl gN (by kernel_rfl) h
  exact (top_gen (P := Tryz.prog) (by kernel_rfl) ctx1w_ok (fi := fiOf Tryz.f5) (by kernel_rfl) (by kernel_rfl) [] [] 200 isT (h00 t) 1 _ W hr .nil (run t)).mono fun e w' ⟨x, h1, ⟨ρ', v, _, h2, h3⟩, hg⟩ => ⟨x, h1, isT_ok h2 h3, hg⟩
theorem door_met (os : Os) (args : Array Value) : laidMetH Tryz.prog Rows.treeNamesRow.laid ((World.doorLaid Tryz.prog 14 os).forCall (fun _ _ => 0) ⟨#[], args, []⟩).memory :=
  laidMetH_of_parts3 (fuel := 8) (laidMet_of_run' 8 (by kernel_rfl) (by kernel_rfl)) (by kernel_rfl) (by kernel_rfl)
theorem lifted (os : Os) (started : os.Started) (H : Type) (enc : TypeId × Value → H) :
    ReturnsInHanded {} Tryz.checked os 5 .any (fun w args => (Rows.treeNamesSpec.pre enc Tryz.prog Tryz.f5 [] false w args ∧ laidMetH Tryz.prog Rows.treeNamesRow.laid w) ∧ sizedMet enc Tryz.prog Tryz.f5 (OpenSpec.ofChange Rows.treeNamesSpec) false w args)
      (Rows.treeNamesSpec.post enc Tryz.prog Tryz.f5 false true false false) := by
  refine returnsInHanded_of_change_and (C := Tryz.checked) (X := fun w _ => laidMetH Tryz.prog Rows.treeNamesRow.laid w) (fun _ _ _ hh h => h.of_heap hh) godebug_own started (by kernel_rfl) Tryz.func5
    (ChangeSpec.witness_shaped (enc := enc) (C := Tryz.checked) (os := os) (X := fun w _ => laidMetH Tryz.prog Rows.treeNamesRow.laid w) false (World.doorLaid Tryz.prog 14 os) #[] 8 rfl (World.shaped_of_RefB (by kernel_rfl) (by kernel_rfl)) (by kernel_rfl) (by kernel_rfl) (by kernel_rfl) (door_met os _)) ?_
  intro W base args ds gs before hval0 hW _ _ hL _
  have hW' := hW
  obtain ⟨p, q, hA0, hV, rfl, hfz, hnd⟩ := hW
  have hA : DataW.TrodAll enc Tryz.prog W 0 (fun _ => true) true Tryz.f5.params.toList args.toList ds p := hA0
  have hAll := hA
  rw [Tryz.params5] at hA
  obtain ⟨hargs, rfl, rfl⟩ := trodAll_nil hA
  obtain rfl : args = #[] := by cases args; simp_all
  obtain ⟨rfl, rfl⟩ := trodVars_none hV
  clear hA0 hval0
  rw [MakeChecks.laidMetH_plain _ _ _ (by kernel_rfl)] at hL
  refine (calls W hL).mono fun e W' ⟨v, he, hv, hg⟩ => ?_
  subst he; subst hv
  exact ⟨_, rfl, _, _, _, [], _, [], hW', trodAll_mk1 (shut_bool Tryz.underlying4 _), kept_all laid_out hg.1 _ _ _ _ (by kernel_rfl) hAll, rfl, hg.1.frame _, fun h => by cases h⟩
theorem row : Rows.TreeNamesSaid :=
  OpenClaim.holds_of_wide 5 Tryz.f5 rfl rfl rfl rfl rfl rfl rfl ⟨rfl, rfl, rfl, rfl, rfl⟩ rfl rfl rfl rfl rfl (by kernel_rfl) Tryz.func5 (by kernel_rfl)
    (of_decide_eq_true (by kernel_rfl)) (by unfold Func.isWrapper; first | (rw [if_pos (by decide +kernel)]; kernel_rfl) | (rw [if_neg (by decide +kernel)]; exact ⟨rfl, rfl⟩))
    (fun os started H enc _ => lifted os started H enc)
theorem proved : Rows.TreeNamesCardSaid :=
  Claim7.holds_tied_plain_at .later [] [.data] true (true, "0073635c81f1e445232430192939681a2330ee47e1785abf461a23df7728c679") true
    row (fun _ h => by cases h) (by kernel_rfl) (fun _ h => by cases h) treeNames_row_tie rfl ⟨rfl, rfl⟩ (by kernel_rfl) rfl
    (fun f fn hf hfn => by
      obtain rfl : f = 5 := Option.some.inj ((show (Tryz.prog).funcNamed "headwater/headwaterlaw12.TreeNames" = some 5 by kernel_rfl).symm.trans hf) |>.symm
      obtain rfl : fn = Tryz.f5 := (Option.some.inj (Tryz.func5.symm.trans hfn)).symm
      exact ⟨by kernel_rfl, fun j t ht => by
        rw [Tryz.params5] at ht
        simp at ht⟩)
    (by kernel_rfl)
end Go.Proofs.YtbecokebaikhaaaGreatDoor.lawTreeNames12
