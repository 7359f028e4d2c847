import Derived.Test.YtmpjigghgedjbaaBj
import Derived.Test.YtmpjigghgedjbaaBk
set_option linter.unusedSimpArgs false
set_option linter.unusedVariables false
set_option linter.unusedSectionVars false
namespace Go.Proofs.Ytmpjigghgedjbaa
open Go Go.RowKit Go.V Go.N Go.E
set_option maxRecDepth 1000000
theorem LN_eq : LN = 7237005577332262213973186563042994240857116359379907606001950938285454250989 := by unfold LN; rfl
theorem modL_big (a : Nat) : a % 7237005577332262213973186563042994240857116359379907606001950938285454250989 < 115792089237316195423570985008687907853269984665640564039457584007913129639936 := Nat.lt_trans (Nat.mod_lt _ (by decide)) (by decide)
section
variable (K : Know)
theorem gAdd4_ok : @GOk K.gl Try.prog 50 (g2 6) := g2_ok K (F := fun a b => (a + b) % 7237005577332262213973186563042994240857116359379907606001950938285454250989) (fun _ _ => rfl) (fun _ _ => modL_big _) (fun N M hN hM w => by have := add_s N M hN hM w; rw [LN_eq] at this; exact this)
theorem gMul4_ok : @GOk K.gl Try.prog 51 (g2 7) := g2_ok K (F := fun a b => a * b % 7237005577332262213973186563042994240857116359379907606001950938285454250989) (fun _ _ => rfl) (fun _ _ => modL_big _) (fun N M hN hM w => by have := mul_s N M hN hM w; rw [LN_eq] at this; exact this)
theorem dn6 (a b : Ex) : dn K (.f 6 a b) = (dn K a + dn K b) % 7237005577332262213973186563042994240857116359379907606001950938285454250989 := (Eq.refl _).trans (Eq.refl _)
theorem dn7 (a b : Ex) : dn K (.f 7 a b) = dn K a * dn K b % 7237005577332262213973186563042994240857116359379907606001950938285454250989 := (Eq.refl _).trans (Eq.refl _)
theorem dnc' (s : Nat) : dn K (.c s) = s := (Eq.refl _).trans (Eq.refl _)
theorem dn_v (i : Nat) : dn K (.v i) = (K.σ i).1 := (Eq.refl _).trans (Eq.refl _)
theorem pe_base : pe K (.c 1) = baseP := (Eq.refl _).trans (Eq.refl _)
theorem pe_zr : pe K (.c 0) = zeroP := (Eq.refl _).trans (Eq.refl _)
end
def four (P Q : Pt) (a b : Nat) : Nat → Nat × Pt := fun i => bif Nat.beq i 0 then (0, P) else bif Nat.beq i 1 then (0, Q) else bif Nat.beq i 2 then (a, zeroP) else (b, zeroP)
noncomputable def conMu (vals : List Ex) (nf : List (Ex × Ex)) : List (Nat × Con) :=
  (48, conOf (gMul2P vals nf)) :: (47, conOf (gMulP vals nf)) :: (50, conOf (g2 6)) :: (51, conOf (g2 7)) :: conG vals nf
theorem conMu_ok (K : Know) {vals : List Ex} {nf : List (Ex × Ex)} (hv : ∀ e ∈ vals, Val (pe K e)) (hn : ∀ p ∈ nf, pe K p.1 = pe K p.2) (i : LoopTab) (f : Nat) (c : Con) (h : (f, c) ∈ conMu vals nf) : @ConOk i K.gl Try.prog f c := by
  letI := K.gl
  letI := i
  simp only [conMu, List.mem_cons, Prod.mk.injEq] at h
  rcases h with ⟨rfl, rfl⟩ | ⟨rfl, rfl⟩ | ⟨rfl, rfl⟩ | ⟨rfl, rfl⟩ | h
  · exact conOf_ok fn48 (gMul2P_ok K hv hn)
  · exact conOf_ok fn47 (gMulP_ok K hv hn)
  · exact conOf_ok fn50 (gAdd4_ok K)
  · exact conOf_ok fn51 (gMul4_ok K)
  · exact conG_ok K hv hn i f c (by simpa [conG] using h)
def valsMu : List Ex := [.v 0, .v 1, .c 0, .c 1, pM (.v 2) (.v 0), pM (.v 3) (.v 1), pA (.v 0) (.v 1), pM (.v 2) (.v 1), pM (.v 2) (.c 1), pM (.v 3) (.c 1)]
def nfMu : List (Ex × Ex) := [(pM (.v 2) (pA (.v 0) (.v 1)), pA (pM (.v 2) (.v 0)) (pM (.v 2) (.v 1))), (pM (.c 0) (.v 0), .c 0), (pM (.c 1) (.v 0), .v 0), (pM (.c 2) (.v 0), pA (.v 0) (.v 0)),
  (pM (.f 6 (.v 2) (.v 3)) (.c 1), pA (pM (.v 2) (.c 1)) (pM (.v 3) (.c 1))), (pM (.f 7 (.v 2) (.v 3)) (.c 1), pM (.v 2) (pM (.v 3) (.c 1)))]
theorem muls_run (K : Know) : (letI := K.gl; callN false (ctxL (conMu valsMu nfMu)) true 20 0 0 (.fn 11) [mkP (.v 0), mkP (.v 1), nmV (.v 2), nmV (.v 3)] .lf 0 (fun v _ _ => sameVv v (.at (.bool true)))) = true := by kernel_rfl
theorem mulsN_run (K : Know) (b0 b1 : Bool) (h : (b0 && b1) = false) : (letI := K.gl; callN false (ctxL (conT2 [(.v 0, b0), (.v 1, b1)])) true 20 0 0 (.fn 11) [mkP (.v 0), mkP (.v 1), nmV (.v 2), nmV (.v 3)] .lf 0 (fun v _ _ => sameVv v (.at (.bool true)))) = true := by
  cases b0 <;> cases b1 <;> first | (cases h; done) | kernel_rfl
theorem mul_two {P : Pt} (hP : Val P) : mulP 2 P = addP P P := by show addP (mulP 1 P) P = _; rw [mul_one' hP]
theorem muls_c (P Q : Pt) (a b : Nat) (hP : Small256 P) (hQ : Small256 Q) (ha : a < 115792089237316195423570985008687907853269984665640564039457584007913129639936) (hb : b < 115792089237316195423570985008687907853269984665640564039457584007913129639936) (w : World) :
    Calls Try.prog 11 #[pt P, pt Q, num a, num b] w (Ret fun v w' => v = .bool true ∧ Grow w w') := by
  classical
  obtain ⟨I, hI⟩ := inv_ex
  obtain ⟨K, hK⟩ : ∃ K, K = know hI (four P Q a b) := ⟨_, rfl⟩
  have s0 : (K.σ 0).2 = P := by rw [hK]; rfl
  have s1 : (K.σ 1).2 = Q := by rw [hK]; rfl
  have s2 : (K.σ 2).1 = a := by rw [hK]; rfl
  have s3 : (K.σ 3).1 = b := by rw [hK]; rfl
  have r0 := mkP_vr K (e := .v 0) (by rw [pe_v, s0]; exact hP)
  have r1 := mkP_vr K (e := .v 1) (by rw [pe_v, s1]; exact hQ)
  rw [pe_v, s0] at r0
  rw [pe_v, s1] at r1
  have r2 := num_vr K (x := .v 2) s2 ha
  have r3 := num_vr K (x := .v 3) s3 hb
  by_cases hall : Val P ∧ Val Q
  · obtain ⟨hP, hQ⟩ := hall
    have hv : ∀ e ∈ valsMu, Val (pe K e) := by
      intro e he
      simp only [valsMu, List.mem_cons, List.mem_nil_iff, or_false] at he
      rcases he with rfl | rfl | rfl | rfl | rfl | rfl | rfl | rfl | rfl | rfl <;> simp only [pe_add, pe_mul, pe_zr, pe_base, pe_v, s0, s1]
      · exact hP
      · exact hQ
      · exact zero_val
      · exact base_val
      · exact mul_val hP _
      · exact mul_val hQ _
      · exact add_val hP hQ
      · exact mul_val hQ _
      · exact mul_val base_val _
      · exact mul_val base_val _
    have hn : ∀ p ∈ nfMu, pe K p.1 = pe K p.2 := by
      intro p hp
      simp only [nfMu, List.mem_cons, List.mem_nil_iff, or_false] at hp
      rcases hp with rfl | rfl | rfl | rfl | rfl | rfl <;> simp only [pe_add, pe_mul, pe_zr, pe_base, pe_v, dn6, dn7, dnc', dn_v, s0, s1, s2, s3]
      · exact mul_addP hP hQ a
      · rfl
      · exact mul_one' hP
      · exact mul_two hP
      · rw [base_mod, mul_add' base_val]
      · rw [base_mod, mul_mul' base_val]
    exact run_true K (conMu_ok K hv hn) (fi := fiOf Try.f11) (by kernel_rfl) (by kernel_rfl) (xs := [pt P, pt Q, num a, num b])
      (fun ρ => by letI := K.gl; exact .cons _ _ _ _ (r0 ρ) (.cons _ _ _ _ (r1 ρ) (.cons _ _ _ _ (r2 ρ) (.cons _ _ _ _ (r3 ρ) .nil)))) (muls_run K) w
  · have hb : (decide (Val P) && decide (Val Q)) = false := by
      cases h : (decide (Val P) && decide (Val Q)) with
      | false => rfl
      | true =>
        simp only [Bool.and_eq_true, decide_eq_true_eq] at h
        exact absurd h hall
    have ht : ∀ p ∈ [((.v 0 : Ex), decide (Val P)), (.v 1, decide (Val Q))], Small256 (pe K p.1) ∧ (p.2 = true → Val (pe K p.1)) ∧ (p.2 = false → ¬ Val (pe K p.1)) := by
      intro p hp
      simp only [List.mem_cons, List.mem_nil_iff, or_false] at hp
      rcases hp with rfl | rfl <;> simp only [pe_v, s0, s1]
      · exact ⟨hP, fun h => of_decide_eq_true h, fun h => of_decide_eq_false h⟩
      · exact ⟨hQ, fun h => of_decide_eq_true h, fun h => of_decide_eq_false h⟩
    exact run_true K (conT2_ok K ht) (fi := fiOf Try.f11) (by kernel_rfl) (by kernel_rfl) (xs := [pt P, pt Q, num a, num b])
      (fun ρ => by letI := K.gl; exact .cons _ _ _ _ (r0 ρ) (.cons _ _ _ _ (r1 ρ) (.cons _ _ _ _ (r2 ρ) (.cons _ _ _ _ (r3 ρ) .nil)))) (mulsN_run K _ _ hb) w
end Go.Proofs.Ytmpjigghgedjbaa
