import Derived.Test.YtmpjigghgedjbaaDm
import Derived.Test.YtmpjigghgedjbaaDg
set_option linter.unusedSimpArgs false
set_option linter.unusedVariables false
set_option linter.unusedSectionVars false
set_option maxHeartbeats 16000000
set_option maxRecDepth 100000
namespace Go.Proofs.Ytmpjigghgedjbaa
open Go Go.RowKit Go.V Go.N Go.E
def nm (I : Nat → Nat) (g : Nat) (a b : Nat × Pt) : Nat := match g with
 | 1 => fmul a.1 b.1
 | 2 => fadd a.1 b.1
 | 3 => fsub a.1 b.1
 | 4 => (p25519 - a.1 % p25519) % p25519
 | 5 => I a.1
 | 6 => (a.1 + b.1) % 7237005577332262213973186563042994240857116359379907606001950938285454250989
 | 7 => a.1 * b.1 % 7237005577332262213973186563042994240857116359379907606001950938285454250989
 | 8 => a.1 % 7237005577332262213973186563042994240857116359379907606001950938285454250989
 | 10 => a.2.1
 | 11 => a.2.2
 | _ => 0
def pn (g : Nat) (a b : Nat × Pt) : Pt := match g with
 | 20 => addP a.2 b.2
 | 21 => negP a.2
 | 22 => mulP a.1 b.2
 | _ => zeroP
def dens (I : Nat → Nat) (σ : Nat → Nat × Pt) : Ex → Nat × Pt
 | .v i => σ i
 | .c s => (s, if s = 0 then zeroP else baseP)
 | .f g a b => (nm I g (dens I σ a) (dens I σ b), pn g (dens I σ a) (dens I σ b))
structure Know where
 I : Nat → Nat
 I_ok : ∀ a, I a = pw a 57896044618658097711785492504343953926634992332820282019728792003956564819947
 σ : Nat → Nat × Pt
 cmp : Ex → Ex → Option Bool
 cmp_ok : ∀ a b r, cmp a b = some r → r = Nat.beq (dens I σ a).1 (dens I σ b).1
@[reducible] def Know.gl (K : Know) : Gl := ⟨glTab, fun e => (dens K.I K.σ e).1, fun _ => rfl, K.cmp, K.cmp_ok⟩
theorem inv_ex : ∃ I : Nat → Nat, ∀ a, I a = pw a 57896044618658097711785492504343953926634992332820282019728792003956564819947 := ⟨fun a => pw a 57896044618658097711785492504343953926634992332820282019728792003956564819947, fun _ => rfl⟩
@[reducible] def know {I : Nat → Nat} (h : ∀ a, I a = pw a 57896044618658097711785492504343953926634992332820282019728792003956564819947) (σ : Nat → Nat × Pt) : Know := ⟨I, h, σ, fun _ _ => none, (fun _ _ _ h => by cases h)⟩
noncomputable def trOf : List (Nat × Con) → Tr Con
 | [] => .lf
 | (f, c) :: l => Tr.put .lf 64 (trOf l) f (some c) fun t => t
theorem trOf_get : ∀ {l : List (Nat × Con)} {f : Nat} {c : Con}, (trOf l).get f = some c → (f, c) ∈ l
 | [], f, c, h => by cases h
 | (g, d) :: l, f, c, h => by
  unfold trOf at h
  rcases Tr.get_put (bad := (.lf : Tr Con)) 64 (trOf l) g (some d) (fun t => t) with e | ⟨t', h1, e⟩
  ·rw [e] at h; cases h
  ·rw [e, h1] at h
   split at h
   ·rename_i hf; cases h; subst hf; simp
   ·exact List.mem_cons_of_mem _ (trOf_get h)
noncomputable def ctxL (l : List (Nat × Con)) : Ctx := ⟨tyT, fnT, trOf l, wmT⟩
theorem ctxL_ok [Gl] {l : List (Nat × Con)} (h : ∀ (i : LoopTab) f c, (f, c) ∈ l → @ConOk i _ Try.prog f c) : CtxOk Try.prog (ctxL l) := ⟨tyT_ok, fnT_ok, fun i f c hc => h i f c (trOf_get hc)⟩
theorem numL_b (N : Nat) : numL N = bcells 32 N := by
 letI : Gl := glI
 apply List.ext_getElem?
 intro i
 rcases Nat.lt_or_ge i 32 with h | h
 ·rw [numL_at h, bcells_get h]; rfl
 ·rw [List.getElem?_eq_none (by rw [numL_l32]; exact h), List.getElem?_eq_none (by rw [length_bcells]; exact h)]
theorem big_pow : (115792089237316195423570985008687907853269984665640564039457584007913129639936 : Nat) = 256 ^ 32 := by decide
section
variable (K : Know)
theorem num_nm {v : V} {x : Ex} (h : exN 32 v = some x) {ρ : Plc} {y : Value} (hv : @VR K.gl ρ v y) : y = num (dens K.I K.σ x).1 ∧ (dens K.I K.σ x).1 < 115792089237316195423570985008687907853269984665640564039457584007913129639936 := by
 letI := K.gl
 obtain ⟨h1, h2⟩ := exN_ok h hv
 refine ⟨?_, by rw [big_pow]; exact h2⟩
 rw [h1, ← numL_b]
 rfl
abbrev nmV (x : Ex) : V := .agg (.op 32 x)
theorem num_vr {x : Ex} {N : Nat} (h : (dens K.I K.σ x).1 = N) (hN : N < 115792089237316195423570985008687907853269984665640564039457584007913129639936) (ρ : Plc) : @VR K.gl ρ (nmV x) (num N) := by
 letI := K.gl
 subst h
 have := RR.ops (ρ := ρ) 32 x (show (dens K.I K.σ x).1 < 256 ^ 32 by rw [← big_pow]; exact hN)
 show VR ρ (.agg (.op 32 x)) (.agg (numL (dens K.I K.σ x).1).toArray)
 rw [numL_b]
 exact .agg _ _ this
def g2 (c : Nat) : List V → Option V
 | [u, v] => match exN 32 u, exN 32 v with
  | some x, some y => some (nmV (.f c x y))
  | _, _ => none
 | _ => none
def g1 (c : Nat) : List V → Option V
 | [u] => match exN 32 u with
  | some x => some (nmV (.f c x (.c 0)))
  | none => none
 | _ => none
theorem g2_ok {f : Nat} {c : Nat} {F : Nat → Nat → Nat} (hF : ∀ a b, nm K.I c a b = F a.1 b.1) (hb : ∀ a b, F a b < 115792089237316195423570985008687907853269984665640564039457584007913129639936)
  (h : ∀ N M, N < 115792089237316195423570985008687907853269984665640564039457584007913129639936 → M < 115792089237316195423570985008687907853269984665640564039457584007913129639936 → ∀ w, Calls Try.prog f #[num N, num M] w (Ret fun v w' => v = num (F N M) ∧ Grow w w')) : @GOk K.gl Try.prog f (g2 c) := by
 letI := K.gl
 intro vs v hv ρ xs w hvs
 unfold g2 at hv
 split at hv
 ·rename_i u1 u2
  split at hv
  ·rename_i x y hx hy
   cases hv
   obtain ⟨a, b, rfl, ha, hbb⟩ := hvs.two
   obtain ⟨rfl, l1⟩ := num_nm K hx ha
   obtain ⟨rfl, l2⟩ := num_nm K hy hbb
   exact (h _ _ l1 l2 w).mono fun en w' ⟨v, e1, e2, e3⟩ => ⟨v, e1, by rw [e2]; exact num_vr K (x := .f c x y) (show (dens K.I K.σ (.f c x y)).1 = _ from hF (dens K.I K.σ x) (dens K.I K.σ y)) (hb _ _) ρ, e3⟩
  ·cases hv
 ·cases hv
theorem g1_ok {f : Nat} {c : Nat} {F : Nat → Nat} (hF : ∀ a b, nm K.I c a b = F a.1) (hb : ∀ a, F a < 115792089237316195423570985008687907853269984665640564039457584007913129639936)
  (h : ∀ N, N < 115792089237316195423570985008687907853269984665640564039457584007913129639936 → ∀ w, Calls Try.prog f #[num N] w (Ret fun v w' => v = num (F N) ∧ Grow w w')) : @GOk K.gl Try.prog f (g1 c) := by
 letI := K.gl
 intro vs v hv ρ xs w hvs
 unfold g1 at hv
 split at hv
 ·rename_i u1
  split at hv
  ·rename_i x hx
   cases hv
   obtain ⟨a, rfl, ha⟩ := hvs.one
   obtain ⟨rfl, l1⟩ := num_nm K hx ha
   exact (h _ l1 w).mono fun en w' ⟨v, e1, e2, e3⟩ => ⟨v, e1, by rw [e2]; exact num_vr K (x := .f c x (.c 0)) (show (dens K.I K.σ (.f c x (.c 0))).1 = _ from hF (dens K.I K.σ x) _) (hb _) ρ, e3⟩
  ·cases hv
 ·cases hv
def gOf : List V → Option V
 | [.at (.int .u64 n)] => some (.agg (.by 32 n))
 | _ => none
theorem gOf_ok : @GOk K.gl Try.prog 18 gOf := by
 letI := K.gl
 intro vs v hv ρ xs w hvs
 unfold gOf at hv
 split at hv
 ·rename_i n
  cases hv
  obtain ⟨a, rfl, ha⟩ := hvs.one
  have ha := ha.atom
  cases ha with
  | int _ _ hn =>
   have hn : n < 18446744073709551616 := hn
   rw [show IntKind.u64.wrap (n : Int) = (n : Int) from wrap_lo (k := .u64) hn]
   refine (of_c n hn w).mono fun en w' ⟨v, e1, e2, e3⟩ => ⟨v, e1, ?_, e3⟩
   rw [e2, show num n = .agg (bcells 32 n).toArray by rw [← numL_b]]
   exact .agg _ _ (.bys 32 n (Nat.lt_trans hn (by decide)))
 ·cases hv
theorem gMul_ok : @GOk K.gl Try.prog 21 (g2 1) := g2_ok K (F := fmul) (fun _ _ => rfl) fmul_big mul_f
theorem gAdd_ok : @GOk K.gl Try.prog 30 (g2 2) := g2_ok K (F := fadd) (fun _ _ => rfl) fadd_big add_f
theorem gSub_ok : @GOk K.gl Try.prog 32 (g2 3) := g2_ok K (F := fsub) (fun _ _ => rfl) fsub_big sub_f
theorem gNeg_ok : @GOk K.gl Try.prog 19 (g1 4) := g1_ok K (F := fun N => (p25519 - N % p25519) % p25519) (fun _ _ => rfl) (fun _ => mod_big _) neg_c
theorem gInv_ok : @GOk K.gl Try.prog 16 (g1 5) := g1_ok K (F := K.I) (fun _ _ => rfl) (fun a => by rw [K.I_ok]; exact pw_big _ _) (fun N hN w => by rw [K.I_ok]; exact inv_c N hN w)
noncomputable def fieldCon : List (Nat × Con) :=
 [(21, conOf (g2 1)), (30, conOf (g2 2)), (32, conOf (g2 3)), (19, conOf (g1 4)), (16, conOf (g1 5)), (18, conOf gOf)]
theorem fieldCon_ok (i : LoopTab) (f : Nat) (c : Con) (h : (f, c) ∈ fieldCon) : @ConOk i K.gl Try.prog f c := by
 letI := K.gl
 letI := i
 simp only [fieldCon, List.mem_cons, Prod.mk.injEq, List.mem_nil_iff, or_false] at h
 rcases h with ⟨rfl, rfl⟩ | ⟨rfl, rfl⟩ | ⟨rfl, rfl⟩ | ⟨rfl, rfl⟩ | ⟨rfl, rfl⟩ | ⟨rfl, rfl⟩
 ·exact conOf_ok fn21 (gMul_ok K)
 ·exact conOf_ok fn30 (gAdd_ok K)
 ·exact conOf_ok fn32 (gSub_ok K)
 ·exact conOf_ok fn19 (gNeg_ok K)
 ·exact conOf_ok fn16 (gInv_ok K)
 ·exact conOf_ok fn18 (gOf_ok K)
end
end Go.Proofs.Ytmpjigghgedjbaa
namespace Go.Proofs.Ytmpjigghgedjbaa
open Go Go.RowKit Go.V Go.N Go.E
def sameRp : Rope → Rope → Bool
 | .by n s, .by m t => two (Nat.beq n m) (Nat.beq s t)
 | .op n x, .op m y => two (Nat.beq n m) (x.eq y)
 | .nd n l r, .nd m l' r' => two (Nat.beq n m) (two (sameRp l l') (sameRp r r'))
 | _, _ => false
theorem sameRp_eq : ∀ {x y : Rope}, sameRp x y = true → x = y
 | .by n s, .by m t, h => by
  obtain ⟨h1, h2⟩ := two_tt (show two (Nat.beq n m) (Nat.beq s t) = true from h)
  rw [Nat.eq_of_beq_eq_true h1, Nat.eq_of_beq_eq_true h2]
 | .op n x, .op m y, h => by
  obtain ⟨h1, h2⟩ := two_tt (show two (Nat.beq n m) (x.eq y) = true from h)
  rw [Nat.eq_of_beq_eq_true h1, Ex.eq_eq h2]
 | .nd n l r, .nd m l' r', h => by
  obtain ⟨h1, h2⟩ := two_tt (show two (Nat.beq n m) (two (sameRp l l') (sameRp r r')) = true from h)
  obtain ⟨h2, h3⟩ := two_tt h2
  rw [Nat.eq_of_beq_eq_true h1, sameRp_eq h2, sameRp_eq h3]
 | .by _ _, .rp _ _, h => by cases h
 | .by _ _, .nd _ _ _, h => by cases h
 | .by _ _, .op _ _, h => by cases h
 | .rp _ _, .by _ _, h => by cases h
 | .rp _ _, .rp _ _, h => by cases h
 | .rp _ _, .nd _ _ _, h => by cases h
 | .rp _ _, .op _ _, h => by cases h
 | .nd _ _ _, .by _ _, h => by cases h
 | .nd _ _ _, .rp _ _, h => by cases h
 | .nd _ _ _, .op _ _, h => by cases h
 | .op _ _, .by _ _, h => by cases h
 | .op _ _, .rp _ _, h => by cases h
 | .op _ _, .nd _ _ _, h => by cases h
def sameVv : V → V → Bool
 | .agg r, .agg s => sameRp r s
 | .at (.bool a), .at (.bool b) => bif a then b else not b
 | .at (.int .i64 a), .at (.int .i64 b) => Nat.beq a b
 | .tup [.agg r, .at (.bool a)], .tup [.agg s, .at (.bool b)] => two (sameRp r s) (bif a then b else not b)
 | .tup [.agg r, .at (.int .i64 a)], .tup [.agg s, .at (.int .i64 b)] => two (sameRp r s) (Nat.beq a b)
 | _, _ => false
theorem bb_eq {a b : Bool} (h : (bif a then b else not b) = true) : a = b := by cases a <;> cases b <;> first | rfl | cases h
theorem sameVv_eq {x y : V} (h : sameVv x y = true) : x = y := by
 unfold sameVv at h
 split at h
 ·rw [sameRp_eq h]
 ·rw [bb_eq h]
 ·rw [Nat.eq_of_beq_eq_true h]
 ·obtain ⟨h1, h2⟩ := two_tt h; rw [sameRp_eq h1, bb_eq h2]
 ·obtain ⟨h1, h2⟩ := two_tt h; rw [sameRp_eq h1, Nat.eq_of_beq_eq_true h2]
 ·cases h
abbrev ptV (x y : Ex) : V := .agg (.nd 32 (.op 32 x) (.op 32 y))
def exP : V → Option (Ex × Ex)
 | .agg (.nd n l r) => bif Nat.beq n 32 then (match exN 32 (.agg l), exN 32 (.agg r) with | some x, some y => some (x, y) | _, _ => none) else none
 | .agg (.by n s) => bif Nat.beq n 64 then some (.c (Nat.mod s 115792089237316195423570985008687907853269984665640564039457584007913129639936), .c (Nat.div s 115792089237316195423570985008687907853269984665640564039457584007913129639936)) else none
 | _ => none
section
variable (K : Know)
abbrev dn (x : Ex) : Nat := (dens K.I K.σ x).1
theorem pt_vr {x y : Ex} (hx : dn K x < 115792089237316195423570985008687907853269984665640564039457584007913129639936) (hy : dn K y < 115792089237316195423570985008687907853269984665640564039457584007913129639936) (ρ : Plc) : @VR K.gl ρ (ptV x y) (pt (dn K x, dn K y)) := by
 letI := K.gl
 have h1 := RR.ops (ρ := ρ) 32 x (show (dens K.I K.σ x).1 < 256 ^ 32 by rw [← big_pow]; exact hx)
 have h2 := RR.ops (ρ := ρ) 32 y (show (dens K.I K.σ y).1 < 256 ^ 32 by rw [← big_pow]; exact hy)
 have := RR.nds (ρ := ρ) 32 _ _ _ _ h1 h2 (length_bcells _ _)
 show VR ρ _ (.agg (numL _ ++ numL _).toArray)
 rw [numL_b, numL_b]
 exact .agg _ _ this
theorem exP_ok {v : V} {x y : Ex} (h : exP v = some (x, y)) {ρ : Plc} {z : Value} (hv : @VR K.gl ρ v z) : z = pt (dn K x, dn K y) ∧ dn K x < 115792089237316195423570985008687907853269984665640564039457584007913129639936 ∧ dn K y < 115792089237316195423570985008687907853269984665640564039457584007913129639936 := by
 letI := K.gl
 unfold exP at h
 split at h
 ·rename_i n l r
  cases hb : Nat.beq n 32 with
  | false => rw [hb] at h; cases h
  | true =>
   rw [hb, cond_true] at h
   cases Nat.eq_of_beq_eq_true hb
   split at h
   ·rename_i x' y' hx hy
    cases h
    cases hv with
    | agg _ cs hr =>
     cases hr with
     | nds _ _ _ xs ys h1 h2 hn =>
      obtain ⟨e1, l1⟩ := num_nm K hx (VR.agg _ _ h1)
      obtain ⟨e2, l2⟩ := num_nm K hy (VR.agg _ _ h2)
      have e1 : xs = numL (dn K x) := by injection e1 with e; exact congrArg Array.toList e
      have e2 : ys = numL (dn K y) := by injection e2 with e; exact congrArg Array.toList e
      subst e1 e2
      exact ⟨rfl, l1, l2⟩
   ·cases h
 ·rename_i n s
  cases hb : Nat.beq n 64 with
  | false => rw [hb] at h; cases h
  | true =>
   rw [hb, cond_true] at h
   cases Nat.eq_of_beq_eq_true hb
   cases h
   cases hv with
   | agg _ cs hr =>
    cases hr with
    | bys _ _ hs =>
     have hs : s < 115792089237316195423570985008687907853269984665640564039457584007913129639936 * 115792089237316195423570985008687907853269984665640564039457584007913129639936 := Nat.lt_of_lt_of_le hs (by decide)
     have hm : s % 115792089237316195423570985008687907853269984665640564039457584007913129639936 < 115792089237316195423570985008687907853269984665640564039457584007913129639936 := Nat.mod_lt _ (by decide)
     refine ⟨?_, hm, Nat.div_lt_of_lt_mul hs⟩
     show Value.agg (bcells 64 s).toArray = .agg (numL _ ++ numL _).toArray
     rw [numL_b, numL_b]
     show _ = Value.agg (bcells 32 (s % 115792089237316195423570985008687907853269984665640564039457584007913129639936) ++ bcells 32 (s / 115792089237316195423570985008687907853269984665640564039457584007913129639936)).toArray
     rw [← bcells_app (n := 32) (m := 32) (by rw [← big_pow]; exact hm), ← big_pow]
     congr 3
     rw [Nat.mul_comm]
     exact (Nat.mod_add_div _ _).symm
 ·cases h
def inP (tab : List (Ex × Ex)) (x y : Ex) : Bool := tab.any fun p => bif p.1.eq x then p.2.eq y else false
theorem inP_ok {tab : List (Ex × Ex)} {x y : Ex} (h : inP tab x y = true) : (x, y) ∈ tab := by
 obtain ⟨p, hp, h⟩ := List.any_eq_true.1 h
 cases h1 : p.1.eq x with
 | false => rw [h1] at h; cases h
 | true =>
  rw [h1, cond_true] at h
  rw [← Ex.eq_eq h1, ← Ex.eq_eq h]
  exact hp
theorem i64_vr [Gl] (n : Nat) (h : n < 9223372036854775808) (ρ : Plc) : VR ρ (.at (.int .i64 n)) (.int .i64 (n : Int)) := by
 have := AR.int (ρ := ρ) .i64 n (Nat.lt_trans h (by decide))
 rw [show IntKind.i64.wrap (n : Int) = (n : Int) from wrap_lo (k := .i64) h] at this
 exact .at _ _ this
theorem run_calls {l : List (Nat × Con)} (hl : ∀ (i : LoopTab) f c, (f, c) ∈ l → @ConOk i K.gl Try.prog f c) {d f : Nat} {fi : FI} (hfi : fnT.get f = some fi) (hnc : ((trOf l).get f).isNone = true) {vs : List V} {xs : List Value} {exp : V}
  (hvs : ∀ ρ, @VRs K.gl ρ vs xs) (H : (letI := K.gl; callN false (ctxL l) true d 0 0 (.fn f) vs .lf 0 (fun v _ _ => sameVv v exp)) = true) (w : World) :
  Calls Try.prog f xs.toArray w (Ret fun x w' => (∃ ρ, @VR K.gl ρ exp x) ∧ Grow w w') := by
 letI := K.gl
 exact (top_gen (by kernel_rfl) (ctxL_ok hl) hfi hnc vs xs d (fun v => sameVv v exp) .lf 0 _ w (@Rel.none _ (fun _ => rfl) (tabOf (ctxL l)) w) (hvs _) H).mono fun en w' ⟨x, e1, ⟨ρ', v, _, e2, e3⟩, e4⟩ => ⟨x, e1, ⟨ρ', sameVv_eq e2 ▸ e3⟩, e4⟩
theorem vr_pt {x y : Ex} {z : Value} {ρ : Plc} (h : @VR K.gl ρ (ptV x y) z) : z = pt (dn K x, dn K y) := (exP_ok K (x := x) (y := y) (by rfl) h).1
end
end Go.Proofs.Ytmpjigghgedjbaa
namespace Go.Proofs.Ytmpjigghgedjbaa
open Go Go.RowKit Go.V Go.N Go.E
set_option maxRecDepth 1000000
def cmpL : List (Ex × Ex × Bool) → Ex → Ex → Option Bool
 | [], _, _ => none
 | (a, b, r) :: l, x, y => bif a.eq x then (bif b.eq y then some r else cmpL l x y) else cmpL l x y
theorem cmpL_ok {D : Ex → Nat} : ∀ {l : List (Ex × Ex × Bool)}, (∀ p ∈ l, p.2.2 = Nat.beq (D p.1) (D p.2.1)) → ∀ a b r, cmpL l a b = some r → r = Nat.beq (D a) (D b)
 | [], _, a, b, r, h => by cases h
 | (x, y, q) :: l, hl, a, b, r, h => by
  have ih := cmpL_ok (D := D) (l := l) fun p hp => hl p (by simp [hp])
  unfold cmpL at h
  cases h1 : x.eq a with
  | false => rw [h1] at h; exact ih a b r h
  | true =>
   rw [h1, cond_true] at h
   cases h2 : y.eq b with
   | false => rw [h2] at h; exact ih a b r h
   | true =>
    rw [h2] at h
    cases h
    rw [← Ex.eq_eq h1, ← Ex.eq_eq h2]
    exact hl (x, y, q) (by simp)
@[reducible] def knowC {I : Nat → Nat} (h : ∀ a, I a = pw a 57896044618658097711785492504343953926634992332820282019728792003956564819947) (σ : Nat → Nat × Pt) (l : List (Ex × Ex × Bool)) (hl : ∀ p ∈ l, p.2.2 = Nat.beq (dens I σ p.1).1 (dens I σ p.2.1).1) : Know := ⟨I, h, σ, cmpL l, cmpL_ok (D := fun e => (dens I σ e).1) hl⟩
abbrev xv (i : Nat) : Ex := .f 10 (.v i) (.c 0)
abbrev yv (i : Nat) : Ex := .f 11 (.v i) (.c 0)
structure Wd where
 x : Ex
 y : Ex
 z : Ex
 t : Ex
def gCan (tab : List (Ex × Bool)) : List V → Option V
 | [u] => match exN 32 u with
  | some x => match tab.find? fun p => p.1.eq x with
   | some p => some (.at (.bool p.2))
   | none => none
  | none => none
 | _ => none
theorem gCan_ok (K : Know) {tab : List (Ex × Bool)} (ht : ∀ p ∈ tab, p.2 = decide (dn K p.1 < p25519)) : @GOk K.gl Try.prog 24 (gCan tab) := by
 letI := K.gl
 intro vs v hv ρ xs w hvs
 unfold gCan at hv
 split at hv
 ·split at hv
  ·rename_i x hx
   split at hv
   ·rename_i p hp
    cases hv
    obtain ⟨a, rfl, ha⟩ := hvs.one
    obtain ⟨rfl, hl⟩ := num_nm K hx ha
    have h1 : p.1.eq x = true := by simpa using List.find?_some hp
    have h2 := ht p (List.mem_of_find?_eq_some hp)
    rw [Ex.eq_eq h1] at h2
    have hr : Calls Try.prog 24 #[num (dn K x)] w (Ret fun v w' => v = .bool p.2 ∧ Grow w w') := by
     by_cases hc : dn K x < p25519
     ·rw [h2, decide_eq_true hc]; exact canon_y _ hc w
     ·rw [h2, decide_eq_false hc]; exact canon_n _ hl hc w
    exact hr.mono fun en w' ⟨v, e1, e2, e3⟩ => ⟨v, e1, by rw [e2]; exact .at _ _ (.bool _), e3⟩
   ·cases hv
  ·cases hv
 ·cases hv
noncomputable def conC (tab : List (Ex × Bool)) : List (Nat × Con) := (24, conOf (gCan tab)) :: fieldCon
theorem conC_ok (K : Know) {tab : List (Ex × Bool)} (ht : ∀ p ∈ tab, p.2 = decide (dn K p.1 < p25519)) (i : LoopTab) (f : Nat) (c : Con) (h : (f, c) ∈ conC tab) : @ConOk i K.gl Try.prog f c := by
 rcases List.mem_cons.1 h with h | h
 ·cases h
  letI := K.gl
  letI := i
  exact conOf_ok (fi := fiOf Try.f24) fn24 (gCan_ok K ht)
 ·exact fieldCon_ok K i f c h
def one1 (P : Pt) : Nat → Nat × Pt := fun _ => (0, P)
def lhsE : Ex := .f 3 (.f 1 (yv 0) (yv 0)) (.f 1 (xv 0) (xv 0))
def rhsE : Ex := .f 2 (.c 1) (.f 1 (.c 37095705934669439343138083508754565189542113879843219016388785533085940283555) (.f 1 (.f 1 (xv 0) (xv 0)) (.f 1 (yv 0) (yv 0))))
theorem check_run {I : Nat → Nat} (hI : ∀ a, I a = pw a 57896044618658097711785492504343953926634992332820282019728792003956564819947) (P : Pt) (c1 c2 c3 : Bool) (hl) : (letI := (knowC hI (one1 P) [(lhsE, rhsE, c3)] hl).gl; callN false (ctxL (conC [(xv 0, c1), (yv 0, c2)])) true 20 0 0 (.fn 43) [ptV (xv 0) (yv 0)] .lf 0 (fun v _ _ => sameVv v (.at (.int .i64 (bif c1 && c2 && c3 then 0 else 2))))) = true := by
 cases c1 <;> cases c2 <;> cases c3 <;> kernel_rfl
theorem i64_bif [Gl] {b : Bool} {ρ : Plc} {x : Value} (h : VR ρ (.at (.int .i64 (bif b then 0 else 2))) x) : x = .int .i64 ((bif b then 0 else 2 : Nat) : Int) := by
 have h := h.atom
 cases b
 ·cases h with
  | int _ _ _ => rfl
 ·cases h with
  | int _ _ _ => rfl
theorem check_b (P : Pt) (b1 : P.1 < 115792089237316195423570985008687907853269984665640564039457584007913129639936) (b2 : P.2 < 115792089237316195423570985008687907853269984665640564039457584007913129639936) (w : World) : Calls Try.prog 43 #[pt P] w (Ret fun v w' => v = .int .i64 ((bif decide (P.1 < p25519) && decide (P.2 < p25519) && decide (fsub (fmul P.2 P.2) (fmul P.1 P.1) = fadd 1 (fmul dN (fmul (fmul P.1 P.1) (fmul P.2 P.2)))) then 0 else 2 : Nat) : Int) ∧ Grow w w') := by
 obtain ⟨I, hI⟩ := inv_ex
 have hl : ∀ p ∈ [(lhsE, rhsE, decide (fsub (fmul P.2 P.2) (fmul P.1 P.1) = fadd 1 (fmul dN (fmul (fmul P.1 P.1) (fmul P.2 P.2)))))], p.2.2 = Nat.beq (dens I (one1 P) p.1).1 (dens I (one1 P) p.2.1).1 := by
  intro p hp
  rw [List.mem_singleton] at hp
  subst hp
  show decide _ = Nat.beq (fsub (fmul P.2 P.2) (fmul P.1 P.1)) (fadd 1 (fmul dN (fmul (fmul P.1 P.1) (fmul P.2 P.2))))
  generalize fsub (fmul P.2 P.2) (fmul P.1 P.1) = a
  generalize fadd 1 (fmul dN (fmul (fmul P.1 P.1) (fmul P.2 P.2))) = b
  cases hb : Nat.beq a b with
  | true => exact decide_eq_true (Nat.eq_of_beq_eq_true hb)
  | false => exact decide_eq_false (Nat.ne_of_beq_eq_false hb)
 have := run_calls (knowC hI (one1 P) _ hl) (conC_ok (knowC hI (one1 P) _ hl) (tab := [(xv 0, decide (P.1 < p25519)), (yv 0, decide (P.2 < p25519))]) (by
   intro p hp
   simp only [List.mem_cons, List.mem_nil_iff, or_false] at hp
   rcases hp with rfl | rfl <;> rfl)) (fi := fiOf Try.f43) (by kernel_rfl) (by kernel_rfl) (xs := [pt P])
  (fun ρ => by letI := (knowC hI (one1 P) _ hl).gl; exact .cons _ _ _ _ (pt_vr (knowC hI (one1 P) _ hl) (x := xv 0) (y := yv 0) b1 b2 ρ) .nil) (check_run hI P _ _ _ hl) w
 refine this.mono fun en w' ⟨x, e1, ⟨ρ, e2⟩, e3⟩ => ⟨x, e1, ?_, e3⟩
 exact @i64_bif (knowC hI (one1 P) _ hl).gl _ _ _ e2
theorem check_y' (P : Pt) (hP : Val P) (w : World) : Calls Try.prog 43 #[pt P] w (Ret fun v w' => v = .int .i64 0 ∧ Grow w w') := by
 have := check_b P (Nat.lt_trans hP.1 (by decide)) (Nat.lt_trans hP.2.1 (by decide)) w
 rw [decide_eq_true hP.1, decide_eq_true hP.2.1, decide_eq_true ((on_dec P.1 P.2).2 hP.2.2)] at this
 exact this
theorem check_n' (P : Pt) (b1 : P.1 < 115792089237316195423570985008687907853269984665640564039457584007913129639936) (b2 : P.2 < 115792089237316195423570985008687907853269984665640564039457584007913129639936) (hP : ¬ Val P) (w : World) : Calls Try.prog 43 #[pt P] w (Ret fun v w' => v = .int .i64 2 ∧ Grow w w') := by
 have := check_b P b1 b2 w
 rw [show (decide (P.1 < p25519) && decide (P.2 < p25519) && decide (fsub (fmul P.2 P.2) (fmul P.1 P.1) = fadd 1 (fmul dN (fmul (fmul P.1 P.1) (fmul P.2 P.2))))) = false from by
  rw [Bool.eq_false_iff]
  intro h
  rw [Bool.and_eq_true, Bool.and_eq_true, decide_eq_true_eq, decide_eq_true_eq, decide_eq_true_eq] at h
  exact hP ⟨h.1.1, h.1.2, (on_dec P.1 P.2).1 h.2⟩] at this
 exact this
section
variable (K : Know)
def gChk (tab : List (Ex × Ex)) : List V → Option V
 | [u] => match exP u with
  | some (x, y) => bif inP tab x y then some (.at (.int .i64 0)) else none
  | none => none
 | _ => none
theorem gChk_ok {tab : List (Ex × Ex)} (ht : ∀ p ∈ tab, Val (dn K p.1, dn K p.2)) : @GOk K.gl Try.prog 43 (gChk tab) := by
 letI := K.gl
 intro vs v hv ρ xs w hvs
 unfold gChk at hv
 split at hv
 ·split at hv
  ·rename_i x y hx
   cases hi : inP tab x y with
   | false => rw [hi] at hv; cases hv
   | true =>
    rw [hi] at hv
    cases hv
    obtain ⟨a, rfl, ha⟩ := hvs.one
    obtain ⟨rfl, _, _⟩ := exP_ok K hx ha
    exact (check_y' _ (ht _ (inP_ok hi)) w).mono fun en w' ⟨v, e1, e2, e3⟩ => ⟨v, e1, by rw [e2]; exact i64_vr 0 (by decide) ρ, e3⟩
  ·cases hv
 ·cases hv
end
noncomputable def conA (tab : List (Ex × Ex)) : List (Nat × Con) := (43, conOf (gChk tab)) :: fieldCon
theorem conA_ok (K : Know) {tab : List (Ex × Ex)} (ht : ∀ p ∈ tab, Val (dn K p.1, dn K p.2)) (i : LoopTab) (f : Nat) (c : Con) (h : (f, c) ∈ conA tab) : @ConOk i K.gl Try.prog f c := by
 rcases List.mem_cons.1 h with h | h
 ·cases h
  letI := K.gl
  letI := i
  exact conOf_ok (fi := fiOf Try.f43) fn43 (gChk_ok K ht)
 ·exact fieldCon_ok K i f c h
theorem neg_run {I : Nat → Nat} (hI : ∀ a, I a = pw a 57896044618658097711785492504343953926634992332820282019728792003956564819947) (P : Pt) : (letI := (know hI (one1 P)).gl; callN false (ctxL (conA [(xv 0, yv 0)])) true 20 0 0 (.fn 44) [ptV (xv 0) (yv 0)] .lf 0 (fun v _ _ => sameVv v (ptV (.f 4 (xv 0) (.c 0)) (yv 0)))) = true := by kernel_rfl
theorem neg_y' (P : Pt) (hP : Val P) (w : World) : Calls Try.prog 44 #[pt P] w (Ret fun v w' => v = pt (negP P) ∧ Grow w w') := by
 obtain ⟨I, hI⟩ := inv_ex
 have := run_calls (know hI (one1 P)) (conA_ok (know hI (one1 P)) (tab := [(xv 0, yv 0)]) (by
   intro p hp
   rw [List.mem_singleton] at hp
   subst hp
   exact hP)) (fi := fiOf Try.f44) (by kernel_rfl) (by kernel_rfl) (xs := [pt P])
  (fun ρ => by letI := (know hI (one1 P)).gl; exact .cons _ _ _ _ (pt_vr (know hI (one1 P)) (x := xv 0) (y := yv 0) (Nat.lt_trans hP.1 (by decide)) (Nat.lt_trans hP.2.1 (by decide)) ρ) .nil) (neg_run hI P) w
 refine this.mono fun en w' ⟨x, e1, ⟨ρ, e2⟩, e3⟩ => ⟨x, e1, ?_, e3⟩
 rw [vr_pt (know hI (one1 P)) e2]
 have := neg_num P
 show pt ((p25519 - P.1 % p25519) % p25519, P.2) = pt (negP P)
 rw [neg_num]
 rfl
end Go.Proofs.Ytmpjigghgedjbaa
namespace Go.Proofs.Ytmpjigghgedjbaa
open Go Go.RowKit Go.V Go.N Go.E
set_option maxRecDepth 1000000
def Wd.fin (e f g h : Ex) : Wd := ⟨.f 1 e f, .f 1 g h, .f 1 f g, .f 1 e h⟩
def Wd.add (w p : Wd) (tw : Ex) : Wd :=
 let a : Ex := .f 1 (.f 3 w.y w.x) (.f 3 p.y p.x)
 let b : Ex := .f 1 (.f 2 w.y w.x) (.f 2 p.y p.x)
 let c : Ex := .f 1 (.f 1 w.t tw) p.t
 let d : Ex := .f 2 (.f 1 w.z p.z) (.f 1 w.z p.z)
 Wd.fin (.f 3 b a) (.f 3 d c) (.f 2 d c) (.f 2 b a)
def Wd.dbl (w : Wd) : Wd :=
 let a : Ex := .f 1 w.x w.x
 let b : Ex := .f 1 w.y w.y
 let c : Ex := .f 1 w.z w.z
 let s : Ex := .f 2 w.x w.y
 let h : Ex := .f 2 a b
 let e : Ex := .f 3 h (.f 1 s s)
 let g : Ex := .f 3 a b
 Wd.fin e (.f 2 (.f 2 c c) g) g h
def Wd.of (x y : Ex) : Wd := ⟨x, y, .c 1, .f 1 x y⟩
def Wd.px (w : Wd) : Ex := .f 1 w.x (.f 5 w.z (.c 0))
def Wd.py (w : Wd) : Ex := .f 1 w.y (.f 5 w.z (.c 0))
def twE : Ex := .f 2 (.c 37095705934669439343138083508754565189542113879843219016388785533085940283555) (.c 37095705934669439343138083508754565189542113879843219016388785533085940283555)
def two2 (P R : Pt) : Nat → Nat × Pt := fun i => bif Nat.beq i 0 then (0, P) else (0, R)
section
variable (K : Know)
theorem dn1 (a b : Ex) : dn K (.f 1 a b) = fmul (dn K a) (dn K b) := rfl
theorem dn2 (a b : Ex) : dn K (.f 2 a b) = fadd (dn K a) (dn K b) := rfl
theorem dn3 (a b : Ex) : dn K (.f 3 a b) = fsub (dn K a) (dn K b) := rfl
theorem dn5 (a b : Ex) : dn K (.f 5 a b) = K.I (dn K a) := rfl
structure WdIs (w : Wd) (x y z t : Nat) : Prop where
 x : dn K w.x = x
 y : dn K w.y = y
 z : dn K w.z = z
 t : dn K w.t = t
theorem WdIs.add {w p : Wd} {x y z t px py pz pt : Nat} (h : WdIs K w x y z t) (k : WdIs K p px py pz pt) {tw : Ex} {n : Nat} (ht : dn K tw = n) :
  WdIs K (w.add p tw) (fmul (fsub (xbE x y px py) (xaE x y px py)) (fsub (xdE z pz) (xcE t pt n))) (fmul (fadd (xdE z pz) (xcE t pt n)) (fadd (xbE x y px py) (xaE x y px py))) (fmul (fsub (xdE z pz) (xcE t pt n)) (fadd (xdE z pz) (xcE t pt n))) (fmul (fsub (xbE x y px py) (xaE x y px py)) (fadd (xbE x y px py) (xaE x y px py))) := by
 constructor <;> simp only [Wd.add, Wd.fin, dn1, dn2, dn3, h.x, h.y, h.z, h.t, k.x, k.y, k.z, k.t, ht, xaE, xbE, xcE, xdE]
theorem WdIs.dbl {w : Wd} {x y z t : Nat} (h : WdIs K w x y z t) : WdIs K w.dbl (fmul (deE x y) (dfE x y z)) (fmul (dgE x y) (dhE x y)) (fmul (dfE x y z) (dgE x y)) (fmul (deE x y) (dhE x y)) := by
 constructor <;> simp only [Wd.dbl, Wd.fin, dn1, dn2, dn3, h.x, h.y, h.z, h.t, deE, dfE, dgE, dhE]
theorem WdIs.of {x y : Ex} {a b : Nat} (hx : dn K x = a) (hy : dn K y = b) : WdIs K (Wd.of x y) a b 1 (fmul a b) := ⟨hx, hy, rfl, by show dn K (.f 1 x y) = _; rw [dn1, hx, hy]⟩
theorem WdIs.pt {w : Wd} {x y z t : Nat} (h : WdIs K w x y z t) {P : Pt} (hP : Val P) (he : Ext x y z t P) : dn K w.px = P.1 ∧ dn K w.py = P.2 := by
 obtain ⟨p1, p2⟩ := ext_point hP he
 constructor
 ·rw [← p1]; simp only [Wd.px, dn1, dn5, h.x, h.z, K.I_ok]
 ·rw [← p2]; simp only [Wd.py, dn1, dn5, h.y, h.z, K.I_ok]
theorem dn_tw : dn K twE = fadd dN dN := rfl
end
theorem add_run {I : Nat → Nat} (hI : ∀ a, I a = pw a 57896044618658097711785492504343953926634992332820282019728792003956564819947) (P R : Pt) : (letI := (know hI (two2 P R)).gl; callN false (ctxL (conA [(xv 0, yv 0), (xv 1, yv 1)])) true 20 0 0 (.fn 45) [ptV (xv 0) (yv 0), ptV (xv 1) (yv 1)] .lf 0 (fun v _ _ => sameVv v (ptV (((Wd.of (xv 0) (yv 0)).add (Wd.of (xv 1) (yv 1)) twE).px) (((Wd.of (xv 0) (yv 0)).add (Wd.of (xv 1) (yv 1)) twE).py)))) = true := by kernel_rfl
theorem add_y' (P R : Pt) (hP : Val P) (hR : Val R) (w : World) : Calls Try.prog 45 #[pt P, pt R] w (Ret fun v w' => v = pt (addP P R) ∧ Grow w w') := by
 have a1 : P.1 < 115792089237316195423570985008687907853269984665640564039457584007913129639936 := Nat.lt_trans hP.1 (by decide)
 have a2 : P.2 < 115792089237316195423570985008687907853269984665640564039457584007913129639936 := Nat.lt_trans hP.2.1 (by decide)
 have c1 : R.1 < 115792089237316195423570985008687907853269984665640564039457584007913129639936 := Nat.lt_trans hR.1 (by decide)
 have c2 : R.2 < 115792089237316195423570985008687907853269984665640564039457584007913129639936 := Nat.lt_trans hR.2.1 (by decide)
 obtain ⟨I, hI⟩ := inv_ex
 let K := know hI (two2 P R)
 have := run_calls K (conA_ok K (tab := [(xv 0, yv 0), (xv 1, yv 1)]) (by
   intro p hp
   simp only [List.mem_cons, List.mem_nil_iff, or_false] at hp
   rcases hp with rfl | rfl
   ·exact hP
   ·exact hR)) (fi := fiOf Try.f45) (by kernel_rfl) (by kernel_rfl) (xs := [pt P, pt R])
  (fun ρ => by letI := K.gl; exact .cons _ _ _ _ (pt_vr K (x := xv 0) (y := yv 0) a1 a2 ρ) (.cons _ _ _ _ (pt_vr K (x := xv 1) (y := yv 1) c1 c2 ρ) .nil)) (add_run hI P R) w
 refine this.mono fun en w' ⟨x, e1, ⟨ρ, e2⟩, e3⟩ => ⟨x, e1, ?_, e3⟩
 rw [vr_pt K e2]
 obtain ⟨p1, p2⟩ := WdIs.pt K (WdIs.add K (WdIs.of K (x := xv 0) (y := yv 0) (a := P.1) (b := P.2) rfl rfl) (WdIs.of K (x := xv 1) (y := yv 1) (a := R.1) (b := R.2) rfl rfl) (dn_tw K)) (add_val hP hR) (ext_add hP hR (ext_of P) (ext_of R) tw_Z)
 rw [p1, p2]
end Go.Proofs.Ytmpjigghgedjbaa
namespace Go.Proofs.Ytmpjigghgedjbaa
open Go Go.RowKit Go.V Go.N Go.E
set_option maxRecDepth 1000000
noncomputable def conOfN (g : List V → Option Nat) : Con := ⟨fun bad vs h _ _ nx k => match g vs with
 | some n => E.nK n fun n => k (.agg (.by 32 n)) h nx
 | none => bad⟩
theorem conOfN_run (g : List V → Option Nat) {R : Type} (bad : R) (vs : List V) (h : E.H) (fl fd nx : Nat) (k : V → E.H → Nat → R) : (conOfN g).run bad vs h fl fd nx k = (conOf fun vs => (g vs).map fun n => .agg (.by 32 n)).run bad vs h fl fd nx k := by
 show (match g vs with | some n => E.nK n fun n => k (.agg (.by 32 n)) h nx | none => bad) = (match (g vs).map fun n => V.agg (.by 32 n) with | some v => k v h nx | none => bad)
 cases g vs with
 | none => rfl
 | some n => exact E.nK_eq _ _
theorem conOfN_ok [Gl] [LoopTab] {P : Program} {f : FuncId} {fi : FI} (hf : E.FnOk P f fi) {g : List V → Option Nat} (hg : GOk P f fun vs => (g vs).map fun n => .agg (.by 32 n)) : ConOk P f (conOfN g) := by
 intro R bad fl fd hfl vs h nx k
 rw [conOfN_run]
 exact conOf_ok hf hg R bad fl fd hfl vs h nx k
def nB : V → Option Nat
 | .agg r => match r.bytes with
  | some (n, s) => bif Nat.beq n 32 then some s else none
  | none => none
 | _ => none
section
variable [Gl] [LoopTab]
theorem nB_ok {v : V} {s : Nat} (h : nB v = some s) {ρ : Plc} {y : Value} (hv : VR ρ v y) : y = num s ∧ s < 115792089237316195423570985008687907853269984665640564039457584007913129639936 := by
 unfold nB at h
 split at h
 ·rename_i r
  split at h
  ·rename_i n s' hb
   cases h1 : Nat.beq n 32 with
   | false => rw [h1] at h; cases h
   | true =>
    rw [h1] at h
    cases h
    cases Nat.eq_of_beq_eq_true h1
    cases hv with
    | agg _ cs hr =>
     obtain ⟨rfl, hlt⟩ := rope_bytes hr hb
     exact ⟨by rw [← numL_b], by rw [big_pow]; exact hlt⟩
  ·cases h
 ·cases h
theorem by_vr {n : Nat} (h : n < 115792089237316195423570985008687907853269984665640564039457584007913129639936) (ρ : Plc) : VR ρ (.agg (.by 32 n)) (num n) := by
 rw [show num n = .agg (bcells 32 n).toArray by rw [← numL_b]]
 exact .agg _ _ (.bys 32 n (by rw [← big_pow]; exact h))
def n2 (F : Nat → Nat → Nat) : List V → Option Nat
 | [u, v] => match nB u, nB v with
  | some s, some t => some (F s t)
  | _, _ => none
 | _ => none
def n1 (F : Nat → Nat) : List V → Option Nat
 | [u] => match nB u with
  | some s => some (F s)
  | none => none
 | _ => none
def b1 (F : Nat → Bool) : List V → Option V
 | [u] => match nB u with
  | some s => some (.at (.bool (F s)))
  | none => none
 | _ => none
theorem n2_ok {f : Nat} {F : Nat → Nat → Nat} (hb : ∀ a b, F a b < 115792089237316195423570985008687907853269984665640564039457584007913129639936)
  (h : ∀ N M, N < 115792089237316195423570985008687907853269984665640564039457584007913129639936 → M < 115792089237316195423570985008687907853269984665640564039457584007913129639936 → ∀ w, Calls Try.prog f #[num N, num M] w (Ret fun v w' => v = num (F N M) ∧ Grow w w')) : GOk Try.prog f (fun vs => (n2 F vs).map fun n => .agg (.by 32 n)) := by
 intro vs v hv ρ xs w hvs
 simp only [n2] at hv
 split at hv
 ·rename_i u1 u2
  split at hv
  ·rename_i s t hx hy
   cases hv
   obtain ⟨a, b, rfl, ha, hbb⟩ := hvs.two
   obtain ⟨rfl, l1⟩ := nB_ok hx ha
   obtain ⟨rfl, l2⟩ := nB_ok hy hbb
   exact (h _ _ l1 l2 w).mono fun en w' ⟨v, e1, e2, e3⟩ => ⟨v, e1, by rw [e2]; exact by_vr (hb _ _) ρ, e3⟩
  ·cases hv
 ·cases hv
theorem n1_ok {f : Nat} {F : Nat → Nat} (hb : ∀ a, F a < 115792089237316195423570985008687907853269984665640564039457584007913129639936)
  (h : ∀ N, N < 115792089237316195423570985008687907853269984665640564039457584007913129639936 → ∀ w, Calls Try.prog f #[num N] w (Ret fun v w' => v = num (F N) ∧ Grow w w')) : GOk Try.prog f (fun vs => (n1 F vs).map fun n => .agg (.by 32 n)) := by
 intro vs v hv ρ xs w hvs
 simp only [n1] at hv
 split at hv
 ·rename_i u1
  split at hv
  ·rename_i s hx
   cases hv
   obtain ⟨a, rfl, ha⟩ := hvs.one
   obtain ⟨rfl, l1⟩ := nB_ok hx ha
   exact (h _ l1 w).mono fun en w' ⟨v, e1, e2, e3⟩ => ⟨v, e1, by rw [e2]; exact by_vr (hb _) ρ, e3⟩
  ·cases hv
 ·cases hv
theorem b1_ok {f : Nat} {F : Nat → Bool} (h : ∀ N, N < 115792089237316195423570985008687907853269984665640564039457584007913129639936 → ∀ w, Calls Try.prog f #[num N] w (Ret fun v w' => v = .bool (F N) ∧ Grow w w')) : GOk Try.prog f (b1 F) := by
 intro vs v hv ρ xs w hvs
 unfold b1 at hv
 split at hv
 ·split at hv
  ·rename_i s hx
   cases hv
   obtain ⟨a, rfl, ha⟩ := hvs.one
   obtain ⟨rfl, l1⟩ := nB_ok hx ha
   exact (h _ l1 w).mono fun en w' ⟨v, e1, e2, e3⟩ => ⟨v, e1, by rw [e2]; exact .at _ _ (.bool _), e3⟩
  ·cases hv
 ·cases hv
def gRoot0 : List V → Option V
 | [u] => match nB u with
  | some s => bif Nat.beq s 0 then some (.tup [.agg (.by 32 0), .at (.bool true)]) else none
  | none => none
 | _ => none
theorem pw_00 : pw 0 7237005577332262213973186563042994240829374041602535252466099000494570602494 = 0 := by
 rw [pw_pm (by decide)]; kernel_rfl
theorem rootA_0 : rootA 0 = 0 := pw_00
theorem rootB_0 : rootB 0 = 0 := rootB_of (show rootA 0 = _ from rootA_0) pw_i (by decide)
theorem has_0 : hasRoot 0 := by unfold hasRoot; rw [rootB_0]; decide
theorem root_0 : rootC 0 = 0 := by unfold rootC; rw [if_pos has_0, rootB_0]; decide
theorem gRoot0_ok : GOk Try.prog 22 gRoot0 := by
 intro vs v hv ρ xs w hvs
 unfold gRoot0 at hv
 split at hv
 ·split at hv
  ·rename_i s hx
   cases h0 : Nat.beq s 0 with
   | false => rw [h0] at hv; cases hv
   | true =>
    rw [h0] at hv
    cases hv
    cases Nat.eq_of_beq_eq_true h0
    obtain ⟨a, rfl, ha⟩ := hvs.one
    obtain ⟨rfl, l1⟩ := nB_ok hx ha
    have := root_c 0 (by decide) w
    rw [root_0, decide_eq_true has_0] at this
    exact this.mono fun en w' ⟨v, e1, e2, e3⟩ => ⟨v, e1, by
     rw [e2]
     exact .tup [_, _] [_, _] rfl fun i p q h1 h2 => by
      rcases i with _ | _ | i
      ·simp at h1 h2; subst h1 h2; exact by_vr (by decide) ρ
      ·simp at h1 h2; subst h1 h2; exact .at _ _ (.bool true)
      ·simp at h1, e3⟩
  ·cases hv
 ·cases hv
end
noncomputable def conN : List (Nat × Con) :=
 [(21, conOfN (n2 fun a b => Nat.mod (Nat.mul a b) p25519)), (30, conOfN (n2 fun a b => Nat.mod (Nat.add a b) p25519)), (32, conOfN (n2 fun a b => Nat.mod (Nat.add a (Nat.sub p25519 (Nat.mod b p25519))) p25519)),
  (16, conOfN (n1 fun a => pm p25519 256 a 57896044618658097711785492504343953926634992332820282019728792003956564819947)), (18, conOf gOf), (24, conOf (b1 fun a => Nat.beq (Nat.mod a p25519) a)),
  (23, conOf (b1 fun a => Nat.beq (Nat.mod (Nat.mod a p25519) 2) 1)), (22, conOf gRoot0)]
theorem dec_beq (a b : Nat) : decide (a = b) = Nat.beq a b := by
 cases h : Nat.beq a b with
 | true => exact decide_eq_true (Nat.eq_of_beq_eq_true h)
 | false => exact decide_eq_false (Nat.ne_of_beq_eq_false h)
theorem conN_ok (K : Know) (i : LoopTab) (f : Nat) (c : Con) (h : (f, c) ∈ conN) : @ConOk i K.gl Try.prog f c := by
 letI := K.gl
 letI := i
 simp only [conN, List.mem_cons, Prod.mk.injEq, List.mem_nil_iff, or_false] at h
 rcases h with ⟨rfl, rfl⟩ | ⟨rfl, rfl⟩ | ⟨rfl, rfl⟩ | ⟨rfl, rfl⟩ | ⟨rfl, rfl⟩ | ⟨rfl, rfl⟩ | ⟨rfl, rfl⟩ | ⟨rfl, rfl⟩
 ·exact conOfN_ok fn21 (n2_ok (fun a b => mod_big _) mul_c)
 ·exact conOfN_ok fn30 (n2_ok (fun a b => mod_big _) add_c)
 ·exact conOfN_ok fn32 (n2_ok (fun a b => mod_big _) sub_c)
 ·exact conOfN_ok fn16 (n1_ok (fun a => by rw [← pw_pm (by decide)]; exact pw_big _ _) (fun N hN w => by have := inv_c N hN w; rw [pw_pm (by decide)] at this; exact this))
 ·exact conOf_ok fn18 (gOf_ok K)
 ·exact conOf_ok fn24 (b1_ok fun N hN w => by have := canon_c N hN w; rw [dec_beq] at this; exact this)
 ·exact conOf_ok fn23 (b1_ok fun N hN w => by have := odd_c N hN w; rw [dec_beq] at this; exact this)
 ·exact conOf_ok fn22 gRoot0_ok
theorem lives5_run {I : Nat → Nat} (hI : ∀ a, I a = pw a 57896044618658097711785492504343953926634992332820282019728792003956564819947) : (letI := (know hI fun _ => (0, zeroP)).gl; callN false (ctxL conN) true 20 0 0 (.fn 40) [] .lf 0 (fun v _ _ => sameVv v (.at (.bool true)))) = true := by kernel_rfl
theorem lives5_c (w : World) : Calls Try.prog 40 #[] w (Ret fun v w' => v = .bool true ∧ Grow w w') := by
 obtain ⟨I, hI⟩ := inv_ex
 let K := know hI fun _ => (0, zeroP)
 have := run_calls K (conN_ok K) (fi := fiOf Try.f40) (by kernel_rfl) (by kernel_rfl) (xs := []) (fun ρ => by letI := K.gl; exact .nil) (lives5_run hI) w
 refine this.mono fun en w' ⟨x, e1, ⟨ρ, e2⟩, e3⟩ => ⟨x, e1, ?_, e3⟩
 letI := K.gl
 have := e2.atom
 cases this
 rfl
end Go.Proofs.Ytmpjigghgedjbaa
namespace Go.Proofs.Ytmpjigghgedjbaa
open Go Go.RowKit Go.V Go.N Go.E
set_option maxRecDepth 1000000
def ptE : Ex → Ex → Option Ex
 | .f 10 a _, .f 11 b _ => bif a.eq b then some a else none
 | .c x, .c y => bif two (Nat.beq x 0) (Nat.beq y 1) then some (.c 0) else bif two (Nat.beq x 15112221349535400772501151409588531511454012693041857206046113283949847762202) (Nat.beq y 46316835694926478169428394003475163141307993866256225615783033603165251855960) then some (.c 1) else none
 | _, _ => none
def gPt (v : V) : Option Ex := match exP v with
 | some (x, y) => ptE x y
 | none => none
def mkP : Ex → V
 | .c 0 => .agg (.nd 32 (.by 32 0) (.by 32 1))
 | e => ptV (.f 10 e (.c 0)) (.f 11 e (.c 0))
section
variable (K : Know)
abbrev pe (e : Ex) : Pt := (dens K.I K.σ e).2
theorem ptE_ok {x y e : Ex} (h : ptE x y = some e) : (dn K x, dn K y) = pe K e := by
 unfold ptE at h
 split at h
 ·rename_i a c b d
  cases h1 : a.eq b with
  | false => rw [h1] at h; cases h
  | true =>
   rw [h1] at h
   cases h
   rw [Ex.eq_eq h1]
   rfl
 ·rename_i x y
  cases h1 : two (Nat.beq x 0) (Nat.beq y 1) with
  | true =>
   rw [h1, cond_true] at h
   cases h
   obtain ⟨e1, e2⟩ := two_tt h1
   rw [Nat.eq_of_beq_eq_true e1, Nat.eq_of_beq_eq_true e2]
   rfl
  | false =>
   rw [h1, cond_false] at h
   cases h2 : two (Nat.beq x 15112221349535400772501151409588531511454012693041857206046113283949847762202) (Nat.beq y 46316835694926478169428394003475163141307993866256225615783033603165251855960) with
   | true =>
    rw [h2, cond_true] at h
    cases h
    obtain ⟨e1, e2⟩ := two_tt h2
    rw [Nat.eq_of_beq_eq_true e1, Nat.eq_of_beq_eq_true e2]
    rfl
   | false => rw [h2] at h; cases h
 ·cases h
theorem gPt_ok {v : V} {e : Ex} (h : gPt v = some e) {ρ : Plc} {z : Value} (hv : @VR K.gl ρ v z) : z = pt (pe K e) := by
 unfold gPt at h
 split at h
 ·rename_i x y hx
  obtain ⟨e1, _, _⟩ := exP_ok K hx hv
  rw [e1, ptE_ok K h]
 ·cases h
abbrev Small256 (P : Pt) : Prop := P.1 < 115792089237316195423570985008687907853269984665640564039457584007913129639936 ∧ P.2 < 115792089237316195423570985008687907853269984665640564039457584007913129639936
theorem mkP_vr {e : Ex} (h : Small256 (pe K e)) (ρ : Plc) : @VR K.gl ρ (mkP e) (pt (pe K e)) := by
 letI := K.gl
 unfold mkP
 split
 ·have h1 := RR.bys (ρ := ρ) 32 0 (by decide)
  have h2 := RR.bys (ρ := ρ) 32 1 (by decide)
  have := RR.nds (ρ := ρ) 32 _ _ _ _ h1 h2 (length_bcells _ _)
  show VR ρ _ (.agg (numL 0 ++ numL 1).toArray)
  rw [numL_b, numL_b]
  exact .agg _ _ this
 ·exact pt_vr K (x := .f 10 e (.c 0)) (y := .f 11 e (.c 0)) h.1 h.2 ρ
theorem val_small {P : Pt} (h : Val P) : Small256 P := ⟨Nat.lt_trans h.1 (by decide), Nat.lt_trans h.2.1 (by decide)⟩
def inE (l : List Ex) (e : Ex) : Bool := l.any fun x => x.eq e
theorem inE_ok {l : List Ex} {e : Ex} (h : inE l e = true) : e ∈ l := by
 obtain ⟨x, hx, h⟩ := List.any_eq_true.1 h
 rw [← Ex.eq_eq h]; exact hx
def nfE : List (Ex × Ex) → Ex → Ex
 | [], e => e
 | (a, b) :: l, e => bif a.eq e then b else nfE l e
theorem nfE_ok : ∀ {l : List (Ex × Ex)}, (∀ p ∈ l, pe K p.1 = pe K p.2) → ∀ e, pe K (nfE l e) = pe K e
 | [], _, e => rfl
 | (a, b) :: l, h, e => by
  unfold nfE
  cases h1 : a.eq e with
  | true => rw [cond_true, ← Ex.eq_eq h1]; exact (h (a, b) (by simp)).symm
  | false => exact nfE_ok (fun p hp => h p (by simp [hp])) e
def gAddP (vals : List Ex) (nf : List (Ex × Ex)) : List V → Option V
 | [u, v] => match gPt u, gPt v with
  | some a, some b => bif two (inE vals a) (inE vals b) then some (mkP (nfE nf (.f 20 a b))) else none
  | _, _ => none
 | _ => none
def gTrue : List V → Option V
 | [] => some (.at (.bool true))
 | _ => none
variable {vals : List Ex} {nf : List (Ex × Ex)}
theorem gTrue_ok : @GOk K.gl Try.prog 40 gTrue := by
 letI := K.gl
 intro vs v h ρ xs w hvs
 unfold gTrue at h
 split at h
 ·cases h
  cases hvs
  exact (lives5_c w).mono fun en w' ⟨v, e1, e2, e3⟩ => ⟨v, e1, by rw [e2]; exact .at _ _ (.bool true), e3⟩
 ·cases h
theorem run_true {l : List (Nat × Con)} (hl : ∀ (i : LoopTab) f c, (f, c) ∈ l → @ConOk i K.gl Try.prog f c) {d f : Nat} {fi : FI} (hfi : fnT.get f = some fi) (hnc : ((trOf l).get f).isNone = true) {vs : List V} {xs : List Value}
  (hvs : ∀ ρ, @VRs K.gl ρ vs xs) (H : (letI := K.gl; callN false (ctxL l) true d 0 0 (.fn f) vs .lf 0 (fun v _ _ => sameVv v (.at (.bool true)))) = true) (w : World) :
  Calls Try.prog f xs.toArray w (Ret fun x w' => x = .bool true ∧ Grow w w') :=
 (run_calls K hl hfi hnc hvs H w).mono fun en w' ⟨x, e1, ⟨ρ, e2⟩, e3⟩ => ⟨x, e1, by
  letI := K.gl
  have := e2.atom
  cases this
  rfl, e3⟩
end
end Go.Proofs.Ytmpjigghgedjbaa
