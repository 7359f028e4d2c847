import Derived.Test.YtbecokebaikhaaaGreatDoorUp
import Derived.Lib.LaidTab
set_option linter.unusedSimpArgs false
set_option linter.unusedVariables false
set_option linter.unusedSectionVars false
namespace Go.Proofs.YtbecokebaikhaaaGreatDoor
open Go Go.RowKit Go.V Go.E
set_option maxRecDepth 100000
def tabZ : List Int := [0, 1, 56, 2, 57, 49, 28, 3, 61, 58, 42, 50, 38, 29, 17, 4, 62, 47, 59, 36, 45, 43, 51, 22, 53, 39, 33, 30, 24, 18, 12, 5, 63, 55, 48, 27, 60, 41, 37, 16, 46, 35, 44, 21, 52, 32, 23, 11, 54, 26, 40, 15, 34, 20, 31, 10, 25, 14, 19, 9, 13, 8, 7, 6]
def tabN : Nat := 315684040783403026461198565492879320519372303033823910828724750665742568755751545437592878574175936176031276695822391845783248645128493468529036736594176
noncomputable def h00 (t : TypeId) : H := .nd .lf (some (.cells t (.by 64 tabN))) .lf
theorem tab_bytes : (tabZ.map fun z => Value.int .u8 z) = bcells 64 tabN := by kernel_rfl
theorem rel_laid [LoopTab] {W : World} {name : String} {zs : List Int} (hz : zs = tabZ) (hg : (Tryz.prog).globalNamed name = some 0) (hty : ((Tryz.prog).globals[0]?).map (·.type) = some 257) (h : laidMet Tryz.prog [(name, Lib.tabData .u8 zs)] W) :
    ∃ t, @Rel glI _ (fun b => if b = 0 then some ⟨0, 0, 64⟩ else none) (h00 t).get 1 W := by
  letI := glI
  have hT := Lib.tabIs_of_head hg hty Tryz.underlying257 Tryz.underlying5 (by kernel_rfl) (by kernel_rfl) h
  obtain ⟨arr, t, fr, hb, ha⟩ : ∃ arr t fr, W.heap[0]? = some (.cells arr t fr) ∧ arr = (zs.map fun z => Value.int .u8 z).toArray := by
    unfold Lib.TabIs World.var? at hT
    rw [hg] at hT
    simp only [Option.bind_some] at hT
    split at hT
    · rename_i cs t fr hb
      exact ⟨cs, t, fr, hb, Option.some.inj hT⟩
    · cases hT
  have hfr : fr = (0, 0) := by
    obtain ⟨ps, ⟨g, t', cs, fuel, p, q, hg', _, hv, _, _, rfl⟩, _, hc⟩ := h
    obtain rfl := Option.some.inj (hg.symm.trans hg')
    obtain ⟨⟨c, u, hcu⟩, _⟩ := hc 0 0 (by
      have hcs : cs.size = 64 := by
        have hT : W.var? Tryz.prog name = _ := hT
        rw [hv] at hT
        rw [Option.some.inj hT, hz]; rfl
      rw [hcs]
      refine List.mem_append_left _ (List.mem_append_left _ ?_)
      simp [MemPlace.row])
    rw [hb] at hcu
    cases hcu
    rfl
  subst hfr
  have hlist : arr.toList = bcells 64 tabN := by rw [ha, hz]; exact tab_bytes
  have hsize : arr.size = 64 := by rw [ha, hz]; rfl
  have hget : ∀ b, (h00 t).get b = if b = 0 then some (.cells t (.by 64 tabN)) else none := fun b => by
    unfold h00
    rw [Tr.get_nd]
    split
    · rfl
    · split <;> rfl
  refine ⟨t, fun b p hp => ?_, fun b B hB => ?_, fun b b' p p' h1 h2 _ _ _ => ?_, fun g k hk => ?_⟩
  · split at hp
    · cases hp; rename_i h0; exact ⟨by omega, (Array.getElem?_eq_some_iff.1 hb).1⟩
    · cases hp
  · rw [hget] at hB
    split at hB
    · rename_i h0
      subst h0
      cases hB
      refine ⟨_, rfl, arr, (0, 0), bcells 64 tabN, hb, hsize, .bys 64 tabN (by decide +kernel), fun i v hi => ?_, .inl rfl⟩
      rw [Nat.zero_add, ← Array.getElem?_toList, hlist]; exact hi
    · cases hB
  · rw [hget] at h1 h2
    have a1 : b = 0 := Classical.byContradiction fun h => h1 (if_neg h)
    have a2 : b' = 0 := Classical.byContradiction fun h => h2 (if_neg h)
    omega
  · have : (bif Nat.beq g 0 then some 0 else none) = some k := hk
    cases hg0 : Nat.beq g 0 with
    | true =>
      rw [hg0] at this
      cases this
      cases Nat.eq_of_beq_eq_true hg0
      exact ⟨_, rfl, rfl, rfl⟩
    | false => rw [hg0] at this; cases this
end Go.Proofs.YtbecokebaikhaaaGreatDoor
