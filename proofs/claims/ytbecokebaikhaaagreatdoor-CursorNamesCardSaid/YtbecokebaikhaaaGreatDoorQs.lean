import Derived.Test.YtbecokebaikhaaaGreatDoorQq
import Derived.Test.YtbecokebaikhaaaGreatDoorQr
import Derived.Test.YtbecokebaikhaaaGreatDoorTie
import Derived.Test.YtbecokebaikhaaaGreatDoorCards
import Derived.LaidLaws
import Derived.LaidHandle
import Derived.LaidMore
import Derived.ChangeVars
import Derived.JoinedOf
import Derived.SevenTiedAt
import Derived.Stop.Joined
set_option linter.unusedSimpArgs false
set_option linter.unusedVariables false
set_option linter.unusedSectionVars false
namespace Go.Proofs.YtbecokebaikhaaaGreatDoor.lawCursorNames13
open Go Go.RowKit Go.V Go.E Go.ChangeShapes Go.WideShapes Go.ChangeAt
set_option maxRecDepth 1000000
attribute [local instance] glI
theorem run (t : TypeId) : callN false ctx1w true 200 1 1 (.fn 4) [] (h00 t) 1 (fun v _ _ => isT v) = true :=
  S.run_ok conTw_p (fs := [4, 10, 11, 9, 7, 12, 6, 31, 32, 33, 34, 35, 15, 36, 37, 38, 39, 40, 41, 42, 43, 26, 44, 30, 23, 28, 29, 24, 25, 8, 22, 76, 77, 78, 79, 47, 48, 46, 49, 50, 52, 51, 53, 55, 54, 56, 80, 81, 82, 83, 84, 85, 86, 87, 88, 89, 90, 91, 92, 93, 94, 95, 96, 97, 98, 99, 58, 67, 71, 72, 73, 74, 75, 66, 64, 68, 69, 70, 65, 27, 63, 119, 45, 100, 101, 102, 59, 103, 104, 105, 106, 107, 120, 121, 122, 123, 124, 125, 126, 127, 128, 129, 130, 131, 132, 133, 114, 117, 118, 113, 115, 116, 134, 135, 136, 137, 109, 138, 139, 140, 141, 155, 156, 157, 158, 159, 160, 161, 162, 163, 164, 241, 242, 167, 166, 165, 168, 169, 145, 146, 147, 148, 150, 149, 170, 171, 172, 188, 189, 190, 191, 192, 193, 194, 197, 196, 195, 243, 187, 173, 174, 175, 176, 204, 207, 208, 206, 205, 209, 213, 211, 210, 212, 244, 198, 218, 216, 217, 220, 219, 214]) (by kernel_rfl)
theorem gN : (Tryz.prog).globalNamed "math/bits.deBruijn64tab" = some 0 := by kernel_rfl
theorem calls (W : World) (h : laidMet Tryz.prog Rows.cursorNamesRow.laid W) : Calls Tryz.prog 4 #[] W (Ret fun x w' => x = .bool true ∧ Grow W w') := by
  letI := tabOf ctx1w
  obtain ⟨t, hr⟩ := rel_laid (name := "math/bits.deBruijn64tab") (zs := tabZ) rfl gN (by kernel_rfl) h
  exact (top_gen (P := Tryz.prog) (by kernel_rfl) ctx1w_ok (fi := fiOf Tryz.f4) (by kernel_rfl) (by kernel_rfl) [] [] 200 isT (h00 t) 1 _ W hr .nil (run t)).mono fun e w' ⟨x, h1, ⟨ρ', v, _, h2, h3⟩, hg⟩ => ⟨x, h1, isT_ok h2 h3, hg⟩
theorem door_met (os : Os) (args : Array Value) : laidMetH Tryz.prog Rows.cursorNamesRow.laid ((World.doorLaid Tryz.prog 14 os).forCall (fun _ _ => 0) ⟨#[], args, []⟩).memory :=
  laidMetH_of_parts3 (fuel := 8) (laidMet_of_run' 8 (by kernel_rfl) (by kernel_rfl)) (by kernel_rfl) (by kernel_rfl)
theorem lifted (os : Os) (started : os.Started) (H : Type) (enc : TypeId × Value → H) :
    ReturnsInHanded {} Tryz.checked os 4 .any (fun w args => (Rows.cursorNamesSpec.pre enc Tryz.prog Tryz.f4 [] false w args ∧ laidMetH Tryz.prog Rows.cursorNamesRow.laid w) ∧ sizedMet enc Tryz.prog Tryz.f4 (OpenSpec.ofChange Rows.cursorNamesSpec) false w args)
      (Rows.cursorNamesSpec.post enc Tryz.prog Tryz.f4 false true false false) := by
  refine returnsInHanded_of_change_and (C := Tryz.checked) (X := fun w _ => laidMetH Tryz.prog Rows.cursorNamesRow.laid w) (fun _ _ _ hh h => h.of_heap hh) godebug_own started (by kernel_rfl) Tryz.func4
    (ChangeSpec.witness_shaped (enc := enc) (C := Tryz.checked) (os := os) (X := fun w _ => laidMetH Tryz.prog Rows.cursorNamesRow.laid w) false (World.doorLaid Tryz.prog 14 os) #[] 8 rfl (World.shaped_of_RefB (by kernel_rfl) (by kernel_rfl)) (by kernel_rfl) (by kernel_rfl) (by kernel_rfl) (door_met os _)) ?_
  intro W base args ds gs before hval0 hW _ _ hL _
  have hW' := hW
  obtain ⟨p, q, hA0, hV, rfl, hfz, hnd⟩ := hW
  have hA : DataW.TrodAll enc Tryz.prog W 0 (fun _ => true) true Tryz.f4.params.toList args.toList ds p := hA0
  have hAll := hA
  rw [Tryz.params4] at hA
  obtain ⟨hargs, rfl, rfl⟩ := trodAll_nil hA
  obtain rfl : args = #[] := by cases args; simp_all
  obtain ⟨rfl, rfl⟩ := trodVars_none hV
  clear hA0 hval0
  rw [MakeChecks.laidMetH_plain _ _ _ (by kernel_rfl)] at hL
  refine (calls W hL).mono fun e W' ⟨v, he, hv, hg⟩ => ?_
  subst he; subst hv
  exact ⟨_, rfl, _, _, _, [], _, [], hW', trodAll_mk1 (shut_bool Tryz.underlying4 _), kept_all laid_out hg.1 _ _ _ _ (by kernel_rfl) hAll, rfl, hg.1.frame _, fun h => by cases h⟩
theorem row : Rows.CursorNamesSaid :=
  OpenClaim.holds_of_wide 4 Tryz.f4 rfl rfl rfl rfl rfl rfl rfl ⟨rfl, rfl, rfl, rfl, rfl⟩ rfl rfl rfl rfl rfl (by kernel_rfl) Tryz.func4 (by kernel_rfl)
    (of_decide_eq_true (by kernel_rfl)) (by unfold Func.isWrapper; first | (rw [if_pos (by decide +kernel)]; kernel_rfl) | (rw [if_neg (by decide +kernel)]; exact ⟨rfl, rfl⟩))
    (fun os started H enc _ => lifted os started H enc)
theorem proved : Rows.CursorNamesCardSaid :=
  Claim7.holds_tied_plain_at .later [] [.data] true (true, "0073635c81f1e445232430192939681a2330ee47e1785abf461a23df7728c679") true
    row (fun _ h => by cases h) (by kernel_rfl) (fun _ h => by cases h) cursorNames_row_tie rfl ⟨rfl, rfl⟩ (by kernel_rfl) rfl
    (fun f fn hf hfn => by
      obtain rfl : f = 4 := Option.some.inj ((show (Tryz.prog).funcNamed "headwater/headwaterlaw13.CursorNames" = some 4 by kernel_rfl).symm.trans hf) |>.symm
      obtain rfl : fn = Tryz.f4 := (Option.some.inj (Tryz.func4.symm.trans hfn)).symm
      exact ⟨by kernel_rfl, fun j t ht => by
        rw [Tryz.params4] at ht
        simp at ht⟩)
    (by kernel_rfl)
end Go.Proofs.YtbecokebaikhaaaGreatDoor.lawCursorNames13
