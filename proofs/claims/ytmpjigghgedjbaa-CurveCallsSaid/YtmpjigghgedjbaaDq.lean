import Derived.Test.YtmpjigghgedjbaaDo
set_option linter.unusedSimpArgs false
set_option linter.unusedVariables false
set_option linter.unusedSectionVars false
set_option maxHeartbeats 16000000
set_option maxRecDepth 100000
namespace Go.Proofs.Ytmpjigghgedjbaa
open Go Go.RowKit Go.V Go.N Go.E
set_option maxRecDepth 1000000
def gChkT (tab : List (Ex × Bool)) : List V → Option V
 | [u] => match gPt u with
  | some a => go tab a
  | none => none
 | _ => none
where go : List (Ex × Bool) → Ex → Option V
 | [], _ => none
 | (x, b) :: l, a => bif x.eq a then some (.at (.int .i64 (bif b then 0 else 2))) else go l a
theorem go_ok : ∀ {tab : List (Ex × Bool)} {a : Ex} {v : V}, gChkT.go tab a = some v → ∃ b, (a, b) ∈ tab ∧ v = .at (.int .i64 (bif b then 0 else 2))
 | [], a, v, h => by cases h
 | (x, b) :: l, a, v, h => by
  unfold gChkT.go at h
  cases h1 : x.eq a with
  | true =>
   rw [h1] at h
   cases h
   rw [← Ex.eq_eq h1]
   exact ⟨b, by simp, rfl⟩
  | false =>
   rw [h1] at h
   obtain ⟨b, h2, h3⟩ := go_ok h
   exact ⟨b, by simp [h2], h3⟩
section
variable (K : Know)
theorem gChkT_ok {tab : List (Ex × Bool)} (ht : ∀ p ∈ tab, Small256 (pe K p.1) ∧ (p.2 = true → Val (pe K p.1)) ∧ (p.2 = false → ¬ Val (pe K p.1))) : @GOk K.gl Try.prog 43 (gChkT tab) := by
 letI := K.gl
 intro vs v h ρ xs w hvs
 unfold gChkT at h
 split at h
 ·split at h
  ·rename_i a ha
   obtain ⟨b, hm, rfl⟩ := go_ok h
   obtain ⟨x, rfl, hx⟩ := hvs.one
   have e1 := gPt_ok K ha hx
   subst e1
   obtain ⟨hs, hy, hn⟩ := ht _ hm
   cases b with
   | true => exact (check_y' _ (hy rfl) w).mono fun en w' ⟨v, e1, e2, e3⟩ => ⟨v, e1, by rw [e2]; exact i64_vr 0 (by decide) ρ, e3⟩
   | false => exact (check_n' _ hs.1 hs.2 (hn rfl) w).mono fun en w' ⟨v, e1, e2, e3⟩ => ⟨v, e1, by rw [e2]; exact i64_vr 2 (by decide) ρ, e3⟩
  ·cases h
 ·cases h
end
end Go.Proofs.Ytmpjigghgedjbaa
