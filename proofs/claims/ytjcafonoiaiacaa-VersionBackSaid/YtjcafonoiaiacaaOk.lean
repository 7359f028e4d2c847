/-
  A reader with what is left of its bytes.
-/
import Derived.Test.YtjcafonoiaiacaaOh
import Derived.Test.YtjcafonoiaiacaaOj
namespace Go.Proofs.Ytjcafonoiaiacaa
open Go Go.RowKit Go.V
set_option linter.unusedSimpArgs false
set_option linter.unusedVariables false
/-- The reader in block b has the bytes r left, and this error. -/
def Rd (B b : Nat) (r : List Nat) (e : Nat) (w : World) : Prop :=
  ∃ a n c p L, Blk w b 55 (rdr b a n c p e) ∧ Sl (fun k => B ≤ k ∧ k < b) w 1 a n c (bys L) ∧ p ≤ n ∧ n ≤ 1099511627776 ∧ (∀ x ∈ L, x < 256) ∧ L.drop p = r
theorem Rd.grow {B b e : Nat} {r : List Nat} {w w' : World} (h : Rd B b r e w) (g : Grow w w') : Rd B b r e w' := by
  obtain ⟨a, n, c, p, L, h1, h2, h3⟩ := h
  exact ⟨a, n, c, p, L, h1.grow g, h2.grow g, h3⟩
theorem rderr_c {B b e : Nat} {r : List Nat} (w : World) (h : Rd B b r e w) : Calls Try.prog 25 #[.pointer (some ⟨b, 0, none⟩)] w (Ret fun v w' => v = .int .i64 (e : Int) ∧ w = w') := by
  obtain ⟨a, n, c, p, L, h1, h2, h3⟩ := h
  exact err_c b a n c p e w h1
theorem rdend_c {B b e : Nat} {r : List Nat} (w : World) (h : Rd B b r e w) : Calls Try.prog 26 #[.pointer (some ⟨b, 0, none⟩)] w (Ret fun v w' => v = .int .i64 ((if e = 0 then (if r = [] then 0 else 4) else e : Nat) : Int) ∧ Grow w w') := by
  obtain ⟨a, n, c, p, L, h1, h2, h3, h4, h5, h6⟩ := h
  have hl : L.length = n := by have := h2.len; simpa [bys] using this
  have hd : r.length = n - p := by rw [← h6]; simp [hl]
  have e1 : (if e = 0 then (if p < n then 4 else 0) else e : Nat) = (if e = 0 then (if r = [] then 0 else 4) else e : Nat) := by
    by_cases hr : r = []
    · subst hr; rw [if_neg (show ¬ p < n by simp at hd; omega), if_pos rfl]
    · have := List.length_pos_iff.2 hr
      rw [if_pos (show p < n by omega), if_neg hr]
  rw [← e1]
  exact end_c b a n c p e w h1 (by omega) h3
theorem numV_le (f : Nat) (t : List Nat) : (numV (f :: t)).2.1 ≤ (f :: t).length := by
  have hc := cnt_bd (f := f)
  simp only [numV]
  split
  · simp
  · split
    · simp only [List.length_cons]; omega
    · simp
theorem rdnum_err {B b e : Nat} {r : List Nat} (w : World) (h : Rd B b r e w) (he : e ≠ 0) : Calls Try.prog 24 #[.pointer (some ⟨b, 0, none⟩)] w
    (Ret fun v w' => v = .int .u64 0 ∧ w = w') := by
  obtain ⟨a, n, c, p, L, h1, h2, h3, h4, h5, h6⟩ := h
  exact rnum_err b a n c p e w h1 he
theorem rdnum_c {B b : Nat} {r : List Nat} (w : World) (h : Rd B b r 0 w) : Calls Try.prog 24 #[.pointer (some ⟨b, 0, none⟩)] w
    (Ret fun v w' => v = .int .u64 ((numV r).1 : Int) ∧ Rd B b (r.drop (numV r).2.1) (numV r).2.2 w' ∧ Mut b w w') := by
  obtain ⟨a, n, c, p, L, h1, h2, h3, h4, h5, h6⟩ := h
  have hl : L.length = n := by have := h2.len; simpa [bys] using this
  have hF : ¬ (B ≤ b ∧ b < b) := by omega
  cases r with
  | nil =>
    have hp : p = n := by have := congrArg List.length h6; simp at this; omega
    subst hp
    refine Calls.mono (rnum_none b a p c w h1 (by omega)) (fun x w' hx => Ret.mono hx fun v w' hv => ?_)
    obtain ⟨q1, q2, q3⟩ := hv
    exact ⟨q1, ⟨a, p, c, p, L, q2, sl_mut h2 q3 hF, h3, h4, h5, h6⟩, q3⟩
  | cons f t =>
    refine Calls.mono (rnum_some _ b a n c p L f t w h1 h2 hF (by omega) h3 h5 h6) (fun x w' hx => Ret.mono hx fun v w' hv => ?_)
    obtain ⟨q1, q2, q3⟩ := hv
    have hc : (numV (f :: t)).2.1 ≤ (f :: t).length := numV_le f t
    have hd : (f :: t).length = n - p := by rw [← h6]; simp [hl]
    exact ⟨q1, ⟨a, n, c, p + (numV (f :: t)).2.1, L, q2, sl_mut h2 q3 hF, by omega, h4, h5, by rw [← List.drop_drop, h6]⟩, q3⟩
end Go.Proofs.Ytjcafonoiaiacaa
