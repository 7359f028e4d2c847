import Derived.Test.YtbecokebaikhaaaGreatDoorPq
import Derived.Test.YtbecokebaikhaaaGreatDoorPr
import Derived.Test.YtbecokebaikhaaaGreatDoorTie
import Derived.Test.YtbecokebaikhaaaGreatDoorCards
import Derived.LaidLaws
import Derived.LaidHandle
import Derived.LaidMore
import Derived.ChangeVars
import Derived.JoinedOf
import Derived.SevenTiedAt
import Derived.Stop.Joined
set_option linter.unusedSimpArgs false
set_option linter.unusedVariables false
set_option linter.unusedSectionVars false
namespace Go.Proofs.YtbecokebaikhaaaGreatDoor.lawCursorNil
open Go Go.RowKit Go.V Go.E Go.ChangeShapes Go.WideShapes Go.ChangeAt
set_option maxRecDepth 1000000
attribute [local instance] glI
theorem gN : (Tryz.prog).globalNamed "math/bits.deBruijn64tab" = some 0 := by kernel_rfl
theorem has_lt {P : Program} {w : World} {r : Reach} {base : Nat} {a : Addr} {e : TypeId} {n : Nat} (h : w.has P r base a e n) : a.spot = none ∧ a.block < w.heap.size := by
  obtain ⟨_, h1, row, cells, h2, _⟩ := h
  refine ⟨h1, ?_⟩
  unfold World.shape? at h2
  split at h2
  · rename_i hh; exact (Array.getElem?_eq_some_iff.1 hh).1
  · cases h2
theorem open_sl {P : Program} {w : World} {r : Reach} {base : Nat} {t e : TypeId} {v : Value} (ht : P.underlying t = some (.slice e)) (hv : Value.okWide P w r base t v) : ∃ a n c, v = .slice a n c ∧ ∀ p, a = some p → p.spot = none ∧ p.block < w.heap.size := by
  unfold Value.okWide at hv
  rw [ht] at hv
  have hv : Cell.okWide P w r base t v := hv
  unfold Cell.okWide at hv
  rw [ht] at hv
  have hv : Cell.ok P w r base t v := by
    split at hv <;> first | exact hv | (rename_i h _; cases h)
  cases v with
  | slice a n c =>
    refine ⟨a, n, c, rfl, fun p hp => ?_⟩
    subst hp
    simp only [Cell.ok, ht] at hv
    exact has_lt hv.2.2
  | _ => exact absurd hv (by simp [Cell.ok, ht])
theorem door_met (os : Os) (args : Array Value) : laidMetH Tryz.prog Rows.cursorNilRow.laid ((World.doorLaid Tryz.prog 14 os).forCall (fun _ _ => 0) ⟨#[], args, []⟩).memory :=
  laidMetH_of_parts3 (fuel := 8) (laidMet_of_run' 8 (by kernel_rfl) (by kernel_rfl)) (by kernel_rfl) (by kernel_rfl)
theorem lifted (os : Os) (started : os.Started) (H : Type) (enc : TypeId × Value → H) :
    ReturnsInHanded {} Tryz.checked os 3 .any (fun w args => (Rows.cursorNilSpec.pre enc Tryz.prog Tryz.f3 [] false w args ∧ laidMetH Tryz.prog Rows.cursorNilRow.laid w) ∧ sizedMet enc Tryz.prog Tryz.f3 (OpenSpec.ofChange Rows.cursorNilSpec) false w args)
      (Rows.cursorNilSpec.post enc Tryz.prog Tryz.f3 false true false false) := by
  refine returnsInHanded_of_change_and (C := Tryz.checked) (X := fun w _ => laidMetH Tryz.prog Rows.cursorNilRow.laid w) (fun _ _ _ hh h => h.of_heap hh) godebug_own started (by kernel_rfl) Tryz.func3
    (ChangeSpec.witness_shaped (enc := enc) (C := Tryz.checked) (os := os) (X := fun w _ => laidMetH Tryz.prog Rows.cursorNilRow.laid w) false (World.doorLaid Tryz.prog 14 os) #[.slice none 0 0] 8 rfl (World.shaped_of_RefB (by kernel_rfl) (by kernel_rfl)) (by kernel_rfl) (by kernel_rfl) (by kernel_rfl) (door_met os _)) ?_
  intro W base args ds gs before hval0 hW _ _ hL _
  have hval : ∀ (j : Nat) t v, Tryz.f3.params[j]? = some t → args[j]? = some v → Value.okWide Tryz.prog W .any base t v := hval0
  have hW' := hW
  obtain ⟨p, q, hA0, hV, rfl, hfz, hnd⟩ := hW
  have hA : DataW.TrodAll enc Tryz.prog W 0 (fun _ => true) true Tryz.f3.params.toList args.toList ds p := hA0
  have hAll := hA
  rw [Tryz.params3] at hA hval
  obtain ⟨v0, vs0, d0, ds0, p0, q0, hargs, rfl, rfl, h0, r0⟩ := trodAll_cons hA
  obtain ⟨rfl, rfl, rfl⟩ := trodAll_nil r0
  obtain rfl : args = #[v0] := by cases args; simp_all
  have hv0 := hval 0 22 v0 rfl rfl
  obtain ⟨a, n, c, rfl, hpp⟩ := open_sl Tryz.underlying22 hv0
  obtain ⟨fuel0, hy0⟩ := h0
  obtain ⟨a, n, c, l, e0, hs, hl⟩ := sl_in Tryz.underlying22 Tryz.underlying5 (by kernel_rfl) (c := .slice a n c) hy0
  cases e0
  obtain ⟨rfl, rfl⟩ := trodVars_none hV
  clear hA0 hval0
  rw [MakeChecks.laidMetH_plain _ _ _ (by kernel_rfl)] at hL
  refine (nil_c _ a n c _ W hs (fun _ h => h) hpp hL).mono fun e W' ⟨v, he, hv, hg⟩ => ?_
  subst he; subst hv
  exact ⟨_, rfl, _, _, _, [], _, [], hW', trodAll_mk1 (shut_bool Tryz.underlying4 _), kept_all laid_out hg.1 _ _ _ _ (by kernel_rfl) hAll, rfl, hg.1.frame _, fun h => by cases h⟩
theorem row : Rows.CursorNilSaid :=
  OpenClaim.holds_of_wide 3 Tryz.f3 rfl rfl rfl rfl rfl rfl rfl ⟨rfl, rfl, rfl, rfl, rfl⟩ rfl rfl rfl rfl rfl (by kernel_rfl) Tryz.func3 (by kernel_rfl)
    (of_decide_eq_true (by kernel_rfl)) (by unfold Func.isWrapper; first | (rw [if_pos (by decide +kernel)]; kernel_rfl) | (rw [if_neg (by decide +kernel)]; exact ⟨rfl, rfl⟩))
    (fun os started H enc _ => lifted os started H enc)
theorem proved : Rows.CursorNilCardSaid :=
  Claim7.holds_tied_plain_at .later [] [.data] true (true, "0073635c81f1e445232430192939681a2330ee47e1785abf461a23df7728c679") true
    row (fun _ h => by cases h) (by kernel_rfl) (fun _ h => by cases h) cursorNil_row_tie rfl ⟨rfl, rfl⟩ (by kernel_rfl) rfl
    (fun f fn hf hfn => by
      obtain rfl : f = 3 := Option.some.inj ((show (Tryz.prog).funcNamed "headwater/headwaterlaw13.CursorNil" = some 3 by kernel_rfl).symm.trans hf) |>.symm
      obtain rfl : fn = Tryz.f3 := (Option.some.inj (Tryz.func3.symm.trans hfn)).symm
      exact ⟨by kernel_rfl, fun j t ht => by
        rw [Tryz.params3] at ht
        cases j with
        | zero => (obtain rfl := Option.some.inj (show some _ = some t from ht)); kernel_rfl
        | succ j => simp at ht⟩)
    (by kernel_rfl)
end Go.Proofs.YtbecokebaikhaaaGreatDoor.lawCursorNil
