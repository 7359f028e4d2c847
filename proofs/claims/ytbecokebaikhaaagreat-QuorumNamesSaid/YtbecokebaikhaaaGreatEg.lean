/-
  E, seventh text: what an operation does: numbers, strings, comparisons.
-/
import Derived.Test.YtbecokebaikhaaaGreatEf
import Derived.Laws.Strings
import Derived.Laws.BytesArg
namespace Go.E
open Go Go.RowKit Go.V
set_option linter.unusedVariables false
set_option linter.unusedSimpArgs false

theorem AR.int' {ρ : Plc} {k : IntKind} {n : Nat} {z : Int} (h : n < md k) (hz : z = k.wrap n) : AR ρ (.int k n) (.int k z) := hz ▸ .int k n h
theorem cast_mod (k : IntKind) (n : Nat) : ((Nat.mod n (md k) : Nat) : Int) = (n : Int) % (md k : Int) := Int.natCast_emod n (md k)
theorem wrap_mod (k : IntKind) (n : Nat) : k.wrap ((Nat.mod n (md k) : Nat) : Int) = k.wrap (n : Int) := wrap_congr (by rw [cast_mod, Int.emod_emod])
theorem wrap_add (k : IntKind) (a b : Nat) : k.wrap (k.wrap a + k.wrap b) = k.wrap ((a + b : Nat) : Int) :=
  wrap_congr (by rw [Int.add_emod, wrap_emod, wrap_emod, ← Int.add_emod, Int.natCast_add])
theorem wrap_mul (k : IntKind) (a b : Nat) : k.wrap (k.wrap a * k.wrap b) = k.wrap ((a * b : Nat) : Int) :=
  wrap_congr (by rw [Int.mul_emod, wrap_emod, wrap_emod, ← Int.mul_emod, Int.natCast_mul])
theorem wrap_sub (k : IntKind) {a b : Nat} (hb : b ≤ md k) : k.wrap (k.wrap a - k.wrap b) = k.wrap ((a + (md k - b) : Nat) : Int) :=
  wrap_congr (by
    rw [Int.sub_emod, wrap_emod, wrap_emod, ← Int.sub_emod, Int.natCast_add, Int.ofNat_sub hb]
    rw [show (a : Int) + ((md k : Int) - b) = a - b + md k by omega, Int.add_emod_right])
theorem land_lt {a b M : Nat} (h : a < M) : a &&& b < M := Nat.lt_of_le_of_lt Nat.and_le_left h
theorem lor_lt {k : IntKind} {a b : Nat} (ha : a < md k) (hb : b < md k) : a ||| b < md k := by rw [md_pow] at *; exact Nat.or_lt_two_pow ha hb
theorem xor_lt {k : IntKind} {a b : Nat} (ha : a < md k) (hb : b < md k) : a ^^^ b < md k := by rw [md_pow] at *; exact Nat.xor_lt_two_pow ha hb
theorem beq_dec (a b : Nat) : Nat.beq a b = decide (a = b) := by
  cases h : Nat.beq a b with
  | true => rw [decide_eq_true (Nat.eq_of_beq_eq_true h)]
  | false => rw [decide_eq_false (Nat.ne_of_beq_eq_false h)]
theorem blt_dec (a b : Nat) : Nat.blt a b = decide (a < b) := by
  cases h : Nat.blt a b with
  | true => rw [decide_eq_true (blt_t h)]
  | false => rw [decide_eq_false (blt_f h)]
theorem ble_dec (a b : Nat) : Nat.ble a b = decide (a ≤ b) := by
  cases h : Nat.ble a b with
  | true => rw [decide_eq_true (Nat.le_of_ble_eq_true h)]
  | false => rw [decide_eq_false (ble_f h)]
theorem intB_ok (ρ : Plc) {op : BinOp} {k : IntKind} {a b : Nat} {r : A} (ha : a < md k) (hb : b < md k) (h : intB op k a b = some r) (t : TypeId) :
    ∃ x, binOp op t (.int k (k.wrap a)) (.int k (k.wrap b)) = Pure.pure x ∧ AR ρ r x := by
  have bits : ∀ n : Nat, n < md k → k.wrap ((n : Nat) : Int) = k.wrap n := fun _ _ => rfl
  unfold intB at h
  split at h
  · cases h
    refine ⟨_, by simp only [binOp, Op.intArith, ne_eq, not_true_eq_false, if_false]; rfl, .int' (Nat.mod_lt _ (md_pos k)) ?_⟩
    rw [wrap_mod, wrap_add]; rfl
  · cases h
    refine ⟨_, by simp only [binOp, Op.intArith, ne_eq, not_true_eq_false, if_false]; rfl, .int' (Nat.mod_lt _ (md_pos k)) ?_⟩
    rw [wrap_mod, wrap_sub k (Nat.le_of_lt hb)]; rfl
  · cases h
    refine ⟨_, by simp only [binOp, Op.intArith, ne_eq, not_true_eq_false, if_false]; rfl, .int' (Nat.mod_lt _ (md_pos k)) ?_⟩
    rw [wrap_mod, wrap_mul]; rfl
  · cases h
    refine ⟨_, by simp only [binOp, Op.intBits, ne_eq, not_true_eq_false, if_false]; rfl, .int' (land_lt ha) ?_⟩
    rw [BitVec.toNat_and, ofInt_wrap ha, ofInt_wrap hb]; rfl
  · cases h
    refine ⟨_, by simp only [binOp, Op.intBits, ne_eq, not_true_eq_false, if_false]; rfl, .int' (lor_lt ha hb) ?_⟩
    rw [BitVec.toNat_or, ofInt_wrap ha, ofInt_wrap hb]; rfl
  · cases h
    refine ⟨_, by simp only [binOp, Op.intBits, ne_eq, not_true_eq_false, if_false]; rfl, .int' (xor_lt ha hb) ?_⟩
    rw [BitVec.toNat_xor, ofInt_wrap ha, ofInt_wrap hb]; rfl
  · cases h
    refine ⟨_, by simp only [binOp, Op.intBits, ne_eq, not_true_eq_false, if_false]; rfl, .int' (land_lt ha) ?_⟩
    rw [BitVec.toNat_and, BitVec.toNat_not, ofInt_wrap ha, ofInt_wrap hb, ← md_pow]; rfl
  · cases hc : two (two (Nat.blt 0 b) (Nat.blt a (tp k))) (Nat.blt b (tp k)) with
    | false => rw [hc] at h; cases h
    | true =>
      rw [hc] at h
      cases h
      obtain ⟨h1, h2⟩ := two_t hc
      obtain ⟨h0, h1⟩ := two_t h1
      have h0 := blt_t h0
      have h1 := blt_t h1
      have h2 := blt_t h2
      rw [wrap_lo h1, wrap_lo h2]
      have h3 : ¬ ((b : Int) = 0) := by omega
      refine ⟨_, by simp only [binOp, Op.intDiv, ne_eq, not_true_eq_false, if_false, if_neg h3]; rfl, .int' (Nat.lt_of_le_of_lt (Nat.div_le_self _ _) ha) ?_⟩
      rfl
  · cases hc : two (two (Nat.blt 0 b) (Nat.blt a (tp k))) (Nat.blt b (tp k)) with
    | false => rw [hc] at h; cases h
    | true =>
      rw [hc] at h
      cases h
      obtain ⟨h1, h2⟩ := two_t hc
      obtain ⟨h0, h1⟩ := two_t h1
      have h0 := blt_t h0
      have h1 := blt_t h1
      have h2 := blt_t h2
      rw [wrap_lo h1, wrap_lo h2]
      have h3 : ¬ ((b : Int) = 0) := by omega
      have h4 : a % b < tp k := Nat.lt_of_le_of_lt (Nat.mod_le _ _) h1
      refine ⟨_, by simp only [binOp, Op.intDiv, ne_eq, not_true_eq_false, if_false, if_neg h3]; rfl, .int' (Nat.lt_of_le_of_lt (Nat.mod_le _ _) ha) ?_⟩
      show (a : Int).tmod (b : Int) = k.wrap ((a % b : Nat) : Int)
      rw [wrap_lo h4]; rfl
  all_goals (first | (cases h; done) | skip)
  · cases h
    refine ⟨.bool (k.wrap a == k.wrap b), by simp only [binOp, Op.intCmp, ne_eq, not_true_eq_false, if_false], ?_⟩
    have e : (k.wrap (a : Int) == k.wrap (b : Int)) = Nat.beq a b := by
      rw [beq_dec, Bool.eq_iff_iff]
      simp only [beq_iff_eq, decide_eq_true_eq]
      exact ⟨wrap_inj ha hb, fun h => by rw [h]⟩
    rw [e]; exact .bool _
  · cases h
    refine ⟨.bool (k.wrap a != k.wrap b), by simp only [binOp, Op.intCmp, ne_eq, not_true_eq_false, if_false], ?_⟩
    have e : (k.wrap (a : Int) == k.wrap (b : Int)) = Nat.beq a b := by
      rw [beq_dec, Bool.eq_iff_iff]
      simp only [beq_iff_eq, decide_eq_true_eq]
      exact ⟨wrap_inj ha hb, fun h => by rw [h]⟩
    unfold bne
    rw [e]; exact .bool _
  · cases h
    refine ⟨.bool (decide (k.wrap a < k.wrap b)), by simp only [binOp, Op.intCmp, ne_eq, not_true_eq_false, if_false], ?_⟩
    have e : decide (k.wrap (a : Int) < k.wrap (b : Int)) = Nat.blt (sb k a) (sb k b) := by rw [blt_dec]; exact decide_eq_decide.2 (sb_lt ha hb)
    rw [e]; exact .bool _
  · cases h
    refine ⟨.bool (decide (k.wrap a ≤ k.wrap b)), by simp only [binOp, Op.intCmp, ne_eq, not_true_eq_false, if_false], ?_⟩
    have e : decide (k.wrap (a : Int) ≤ k.wrap (b : Int)) = Nat.ble (sb k a) (sb k b) := by rw [ble_dec]; exact decide_eq_decide.2 (sb_le ha hb)
    rw [e]; exact .bool _
  · cases h
    refine ⟨.bool (decide (k.wrap a > k.wrap b)), by simp only [binOp, Op.intCmp, ne_eq, not_true_eq_false, if_false], ?_⟩
    have e : decide (k.wrap (a : Int) > k.wrap (b : Int)) = Nat.blt (sb k b) (sb k a) := by rw [blt_dec]; exact decide_eq_decide.2 (sb_lt hb ha)
    rw [e]; exact .bool _
  · cases h
    refine ⟨.bool (decide (k.wrap a ≥ k.wrap b)), by simp only [binOp, Op.intCmp, ne_eq, not_true_eq_false, if_false], ?_⟩
    have e : decide (k.wrap (a : Int) ≥ k.wrap (b : Int)) = Nat.ble (sb k b) (sb k a) := by rw [ble_dec]; exact decide_eq_decide.2 (sb_le hb ha)
    rw [e]; exact .bool _
theorem shB_ok (ρ : Plc) {op : BinOp} {k k' : IntKind} {a b : Nat} {r : A} (ha : a < md k) (h : shB op k a k' b = some r) (t : TypeId) :
    ∃ x, binOp op t (.int k (k.wrap a)) (.int k' (k'.wrap b)) = Pure.pure x ∧ AR ρ r x := by
  unfold shB at h
  cases hb : Nat.blt b (tp k') with
  | false => rw [hb] at h; cases h
  | true =>
    rw [hb, cond_true] at h
    rw [wrap_lo (blt_t hb)]
    have h4 : ¬ ((b : Int) < 0) := by omega
    have hkb : kb k = k.bits := by cases k <;> rfl
    split at h
    · cases hc : Nat.blt b (kb k) with
      | true =>
        rw [hc] at h
        cases h
        have hlt : b < k.bits := hkb ▸ blt_t hc
        have h3 : min b k.bits = b := Nat.min_eq_left (Nat.le_of_lt hlt)
        refine ⟨_, by simp only [binOp, Op.shift, if_neg h4, Int.toNat_natCast, h3]; rfl, .int' (Nat.mod_lt _ (md_pos k)) ?_⟩
        rw [wrap_mod]
        show _ = k.wrap ((a <<< b : Nat) : Int)
        rw [Nat.shiftLeft_eq]
        refine wrap_congr ?_
        rw [Int.mul_emod, wrap_emod, ← Int.mul_emod, Int.natCast_mul, Int.natCast_pow]; rfl
      | false =>
        rw [hc] at h
        cases h
        have hge : k.bits ≤ b := hkb ▸ Nat.le_of_not_lt (blt_f hc)
        have h3 : min b k.bits = k.bits := Nat.min_eq_right hge
        refine ⟨_, by simp only [binOp, Op.shift, if_neg h4, Int.toNat_natCast, h3]; rfl, .int' (md_pos k) ?_⟩
        refine wrap_congr ?_
        have e : (2 ^ k.bits : Int) = (md k : Int) := by rw [md_pow, Int.natCast_pow]; rfl
        rw [e]; simp
    · cases h1 : Nat.blt a (tp k) with
      | false => rw [h1] at h; cases h
      | true =>
        rw [h1, cond_true] at h
        have h1 := blt_t h1
        rw [wrap_lo h1]
        cases hc : Nat.blt b (kb k) with
        | true =>
          rw [hc] at h
          cases h
          have hlt : b < k.bits := hkb ▸ blt_t hc
          have h3 : min b k.bits = b := Nat.min_eq_left (Nat.le_of_lt hlt)
          have h5 : a >>> b < tp k := Nat.lt_of_le_of_lt (by rw [Nat.shiftRight_eq_div_pow]; exact Nat.div_le_self _ _) h1
          refine ⟨_, by simp only [binOp, Op.shift, if_neg h4, Int.toNat_natCast, h3]; rfl, .int' (Nat.lt_of_lt_of_le h5 (tp_le k)) ?_⟩
          show (a : Int).fdiv (2 ^ b) = k.wrap ((a >>> b : Nat) : Int)
          rw [wrap_lo h5, Nat.shiftRight_eq_div_pow, Int.fdiv_eq_ediv_of_nonneg _ (by exact_mod_cast Nat.zero_le (2 ^ b))]
          simp
        | false =>
          rw [hc] at h
          cases h
          have hge : k.bits ≤ b := hkb ▸ Nat.le_of_not_lt (blt_f hc)
          have h3 : min b k.bits = k.bits := Nat.min_eq_right hge
          refine ⟨_, by simp only [binOp, Op.shift, if_neg h4, Int.toNat_natCast, h3]; rfl, .int' (md_pos k) ?_⟩
          have h6 : a < 2 ^ k.bits := by rw [← md_pow]; exact ha
          rw [show k.wrap ((0 : Nat) : Int) = 0 from wrap_lo (k := k) (by cases k <;> decide), Int.fdiv_eq_ediv_of_nonneg _ (by exact_mod_cast Nat.zero_le (2 ^ k.bits))]
          exact_mod_cast Nat.div_eq_of_lt h6
    · cases h

/-! Strings. -/
theorem packB_app : ∀ (a b : List UInt8), packB (a ++ b) = packB a + packB b * 256 ^ a.length
  | [], b => by simp [packB]
  | x :: a, b => by
    have := packB_app a b
    show x.toNat + 256 * packB (a ++ b) = x.toNat + 256 * packB a + packB b * 256 ^ (a.length + 1)
    rw [this, Nat.pow_succ]
    grind
theorem packB_inj : ∀ {a b : List UInt8}, a.length = b.length → packB a = packB b → a = b
  | [], [], _, _ => rfl
  | [], _ :: _, h, _ => by simp at h
  | _ :: _, [], h, _ => by simp at h
  | x :: a, y :: b, h, hp => by
    have hp : x.toNat + 256 * packB a = y.toNat + 256 * packB b := hp
    have h1 := x.toNat_lt
    have h2 := y.toNat_lt
    have e1 : x.toNat = y.toNat := by omega
    have e2 : packB a = packB b := by omega
    rw [UInt8.toNat_inj.1 e1, packB_inj (by simpa using h) e2]
theorem packB_eq {a b : List UInt8} : (a == b) = two (Nat.beq a.length b.length) (Nat.beq (packB a) (packB b)) := by
  rw [beq_dec, beq_dec]
  by_cases h : a = b
  · subst h; simp [two]
  · have : (a == b) = false := by simpa using h
    rw [this]
    by_cases h1 : a.length = b.length
    · have h2 : ¬ packB a = packB b := fun e => h (packB_inj h1 e)
      simp [two, h1, h2]
    · simp [two, h1]
theorem sh_8 (x : UInt8) (r : Nat) : Nat.shiftRight (x.toNat + 256 * r) 8 = r := by
  show (x.toNat + 256 * r) >>> 8 = r
  rw [Nat.shiftRight_eq_div_pow]
  have := x.toNat_lt
  omega
theorem strLt_eq : ∀ (f : Nat) (a b : List UInt8), a.length < f → strLt f a.length (packB a) b.length (packB b) = Op.bytesLess a b
  | 0, a, b, h => by omega
  | f + 1, a, [], h => by
    cases a <;> simp [strLt, Op.bytesLess]
  | f + 1, [], y :: b, h => rfl
  | f + 1, x :: a, y :: b, h => by
    have ih := strLt_eq f a b (by simp at h; omega)
    have h1 := x.toNat_lt
    have h2 := y.toNat_lt
    have m1 : Nat.mod (packB (x :: a)) 256 = x.toNat := by show (x.toNat + 256 * packB a) % 256 = _; omega
    have m2 : Nat.mod (packB (y :: b)) 256 = y.toNat := by show (y.toNat + 256 * packB b) % 256 = _; omega
    have s1 : Nat.shiftRight (packB (x :: a)) 8 = packB a := sh_8 x _
    have s2 : Nat.shiftRight (packB (y :: b)) 8 = packB b := sh_8 y _
    have z1 : Nat.beq (y :: b).length 0 = false := rfl
    have z2 : Nat.beq (x :: a).length 0 = false := rfl
    have p1 : Nat.pred (x :: a).length = a.length := rfl
    have p2 : Nat.pred (y :: b).length = b.length := rfl
    simp only [strLt, Op.bytesLess, m1, m2, s1, s2, z1, z2, p1, p2, cond_false, ih]
    rw [blt_dec, beq_dec]
    have e1 : decide (x < y) = decide (x.toNat < y.toNat) := by simp [UInt8.lt_iff_toNat_lt]
    have e2 : (x == y) = decide (x.toNat = y.toNat) := by
      by_cases h : x = y
      · subst h; simp
      · have : ¬ x.toNat = y.toNat := fun e => h (UInt8.toNat_inj.1 e)
        simp [h, this]
    rw [e1, e2]
    cases decide (x.toNat < y.toNat) <;> cases decide (x.toNat = y.toNat) <;> simp
theorem bl_irr : ∀ (a : List UInt8), Op.bytesLess a a = false
  | [] => rfl
  | x :: a => by simp [Op.bytesLess, bl_irr a]
theorem bl_total : ∀ (a b : List UInt8), (Op.bytesLess a b || a == b) = !Op.bytesLess b a
  | [], [] => rfl
  | [], _ :: _ => rfl
  | _ :: _, [] => rfl
  | x :: a, y :: b => by
    have ih := bl_total a b
    simp only [Op.bytesLess, List.cons_beq_cons]
    rcases Nat.lt_trichotomy x.toNat y.toNat with h | h | h
    · have h1 : x < y := by rw [UInt8.lt_iff_toNat_lt]; exact h
      have h2 : ¬ y < x := by rw [UInt8.lt_iff_toNat_lt]; omega
      have h3 : ¬ y = x := fun e => by rw [e] at h; omega
      simp [h1, h2, h3]
    · have h1 : x = y := UInt8.toNat_inj.1 h
      subst h1
      have h2 : ¬ x < x := by rw [UInt8.lt_iff_toNat_lt]; omega
      simp [h2, ih]
    · have h1 : y < x := by rw [UInt8.lt_iff_toNat_lt]; exact h
      have h2 : ¬ x < y := by rw [UInt8.lt_iff_toNat_lt]; omega
      have h3 : ¬ x = y := fun e => by rw [e] at h; omega
      simp [h1, h2, h3]
theorem strB_ok (ρ : Plc) {op : BinOp} {n s m t : Nat} {r : A} {x y : ByteArray} (hx : AR ρ (.str n s) (.string x)) (hy : AR ρ (.str m t) (.string y)) (h : strB op n s m t = some r) (ty : TypeId) :
    ∃ v, binOp op ty (.string x) (.string y) = Pure.pure v ∧ AR ρ r v := by
  cases hx with
  | str _ _ _ hn hs => cases hy with
    | str _ _ _ hm ht =>
      have hn' : x.data.toList.length = n := by rw [← hn]; simp
      have hm' : y.data.toList.length = m := by rw [← hm]; simp
      have eqv : (x.toList == y.toList) = two (Nat.beq n m) (Nat.beq s t) := by
        rw [ByteArray.toList_eq, ByteArray.toList_eq, packB_eq, hn', hm', hs, ht]
      have ltv : Op.bytesLess x.toList y.toList = strLt (Nat.succ n) n s m t := by
        rw [ByteArray.toList_eq, ByteArray.toList_eq]
        have := strLt_eq (n + 1) x.data.toList y.data.toList (by omega)
        rw [hn', hm', hs, ht] at this
        exact this.symm
      have gtv : Op.bytesLess y.toList x.toList = strLt (Nat.succ m) m t n s := by
        rw [ByteArray.toList_eq, ByteArray.toList_eq]
        have := strLt_eq (m + 1) y.data.toList x.data.toList (by omega)
        rw [hn', hm', hs, ht] at this
        exact this.symm
      unfold strB at h
      split at h <;> first | (cases h; done) | skip
      · cases hc : Nat.blt (Nat.add n m) 9223372036854775807 with
        | false => rw [hc] at h; cases h
        | true =>
          rw [hc] at h
          cases h
          have hlt : n + m < 9223372036854775807 := blt_t hc
          have hle : ¬ (((x.size + y.size : Nat) : Int) > IntKind.i64.max) := by
            rw [hn, hm]
            show ¬ (((n + m : Nat) : Int) > 9223372036854775807)
            omega
          refine ⟨.string (x ++ y), by simp only [binOp, Op.stringOp, if_neg hle], .str _ _ _ (by rw [ByteArray.size_append, hn, hm]; rfl) ?_⟩
          rw [ByteArray.data_append, Array.toList_append, packB_app, hn', hs, ht, sh8_eq]; rfl
      · cases h
        exact ⟨.bool (x.toList == y.toList), by simp only [binOp, Op.stringOp], by rw [eqv]; exact .bool _⟩
      · cases h
        exact ⟨.bool (!(x.toList == y.toList)), by simp only [binOp, Op.stringOp], by rw [eqv]; exact .bool _⟩
      · cases h
        exact ⟨.bool (Op.bytesLess x.toList y.toList), by simp only [binOp, Op.stringOp], by rw [ltv]; exact .bool _⟩
      · cases h
        exact ⟨.bool (!Op.bytesLess x.toList y.toList), by simp only [binOp, Op.stringOp], by rw [ltv]; exact .bool _⟩
      · cases h
        refine ⟨.bool (!(Op.bytesLess x.toList y.toList || x.toList == y.toList)), by simp only [binOp, Op.stringOp], ?_⟩
        rw [bl_total, Bool.not_not, gtv]; exact .bool _
      · cases h
        refine ⟨.bool (Op.bytesLess x.toList y.toList || x.toList == y.toList), by simp only [binOp, Op.stringOp], ?_⟩
        rw [bl_total, gtv]; exact .bool _

/-! Two operands. -/
theorem eqGuard_at {ρ : Plc} {a b : A} {x y : Value} (h : AR ρ a x) (h' : AR ρ b y) (hn : a ≠ .nilIface) (op : BinOp) (t : TypeId) (p q : Operand) : eqGuard op t p q x y = Pure.pure () := by
  cases op <;> first | rfl | (cases h <;> first | rfl | exact absurd rfl hn | (cases h' <;> rfl))
section
variable {R : Type} {bad : R} {P : Program}
/-- What a pure operation of two values gives. -/
def BinOk (P : Program) (op : BinOp) (t : TypeId) (x y : V) (r : V) : Prop :=
  ∀ ρ u v, VR ρ x u → VR ρ y v → ∀ p q w, ∃ z, (do eqGuard op t p q u v; binOp op t u v : Sem Value).run P w = .ok z w ∧ VR ρ r z
theorem binOk_of {op : BinOp} {t : TypeId} {a b : A} {r : A} (hn : a ≠ .nilIface) (h : ∀ ρ x y, AR ρ a x → AR ρ b y → ∀ w, ∃ z, (binOp op t x y).run P w = .ok z w ∧ AR ρ r z) : BinOk P op t (.at a) (.at b) (.at r) := by
  intro ρ u v hu hv p q w
  obtain ⟨z, h1, h2⟩ := h ρ u v hu.atom hv.atom w
  refine ⟨z, ?_, .at _ _ h2⟩
  simp only [eqGuard_at hu.atom hv.atom hn, Sem.run_bind, Sem.run_pure, Result.andThen_ok, h1]
theorem outK1_ok {m : Bool} {r : Option A} {k : V → R} {Q : V → Prop} (h : ∀ a, r = some a → Q (.at a)) : Ok1 bad (outK1 bad m r k) k Q := by
  unfold outK1
  split
  · rename_i a; rw [strA_eq]; exact .inr ⟨_, h a rfl, rfl⟩
  · exact .inl rfl
theorem eqT_at (d : Nat) {ρ : Plc} {t : TypeId} {tk : TK} {u : TypeDesc} (hu : P.underlying t = some u) (hd : descK tk u = true) (hz : ∀ e, tk = .pt e → ∃ te, TyOk P e te ∧ 0 < te.size) {a b : A} {r : Bool} (h : eqT tk a b = some r) {x y : Value} (hx : AR ρ a x) (hy : AR ρ b y) (w : World) :
    (Op.equalIn (d + 1) t x y).run P w = .ok r w := by
  unfold eqT at h
  split at h <;> first | (cases h; done) | skip
  · cases u <;> simp only [descK] at hd <;> first | (cases hd; done) | skip
    rename_i p q
    cases h; cases hx; cases hy
    show (Op.equalIn (d + 1) t _ _).run P w = _
    rw [Op.equalIn]
    cases p <;> cases q <;> simp [underlying, hu]
  · cases u <;> simp only [descK] at hd <;> first | (cases hd; done) | skip
    cases h; cases hx; cases hy
    show (Op.equalIn (d + 1) t _ _).run P w = _
    rw [Op.equalIn]
    simp [underlying, hu]
  · cases u <;> simp only [descK] at hd <;> first | (cases hd; done) | skip
    cases h; cases hx; cases hy
    show (Op.equalIn (d + 1) t _ _).run P w = _
    rw [Op.equalIn]
    simp [underlying, hu]
  · cases u <;> simp only [descK] at hd <;> first | (cases hd; done) | skip
    cases h; cases hx; cases hy
    show (Op.equalIn (d + 1) t _ _).run P w = _
    rw [Op.equalIn]
    simp [underlying, hu]
  · cases u <;> simp only [descK] at hd <;> first | (cases hd; done) | skip
    cases h; cases hx; cases hy
    show (Op.equalIn (d + 1) t _ _).run P w = _
    rw [Op.equalIn]
    simp [underlying, hu]
  · cases u <;> simp only [descK] at hd <;> first | (cases hd; done) | skip
    cases h; cases hx; cases hy
    show (Op.equalIn (d + 1) t _ _).run P w = _
    rw [Op.equalIn]
    simp [underlying, hu]
  · cases u <;> simp only [descK] at hd <;> first | (cases hd; done) | skip
    cases h; cases hx; cases hy
    show (Op.equalIn (d + 1) t _ _).run P w = _
    rw [Op.equalIn]
    simp [underlying, hu]
  · cases u <;> simp only [descK] at hd <;> first | (cases hd; done) | skip
    cases h; cases hx; cases hy
    show (Op.equalIn (d + 1) t _ _).run P w = _
    rw [Op.equalIn]
    simp [underlying, hu]
  · cases u <;> simp only [descK] at hd <;> first | (cases hd; done) | skip
    cases h; cases hx; cases hy
    show (Op.equalIn (d + 1) t _ _).run P w = _
    rw [Op.equalIn]
    simp [underlying, hu]
  · cases u <;> simp only [descK] at hd <;> first | (cases hd; done) | skip
    cases h; cases hx; cases hy
    show (Op.equalIn (d + 1) t _ _).run P w = _
    rw [Op.equalIn]
    simp [underlying, hu]
  · cases u <;> simp only [descK] at hd <;> first | (cases hd; done) | skip
    cases h; cases hx; cases hy
    show (Op.equalIn (d + 1) t _ _).run P w = _
    rw [Op.equalIn]
    simp [underlying, hu]
  · cases u <;> simp only [descK] at hd <;> first | (cases hd; done) | skip
    cases h; cases hx; cases hy
    show (Op.equalIn (d + 1) t _ _).run P w = _
    rw [Op.equalIn]
    simp [underlying, hu]
  · cases u <;> simp only [descK] at hd <;> first | (cases hd; done) | skip
    cases h; cases hx; cases hy
    show (Op.equalIn (d + 1) t _ _).run P w = _
    rw [Op.equalIn]
    simp [underlying, hu]
  · cases u <;> simp only [descK] at hd <;> first | (cases hd; done) | skip
    cases h; cases hx; cases hy
    show (Op.equalIn (d + 1) t _ _).run P w = _
    rw [Op.equalIn]
    simp [underlying, hu]
  · cases u <;> simp only [descK] at hd <;> first | (cases hd; done) | skip
    cases h; cases hx; cases hy
    show (Op.equalIn (d + 1) t _ _).run P w = _
    rw [Op.equalIn]
    simp [underlying, hu]
  · rename_i e b0 o c p
    cases hb : Nat.beq b0 c with
    | false => rw [hb] at h; cases h
    | true =>
      rw [hb, cond_true] at h
      have hb := Nat.eq_of_beq_eq_true hb
      subst hb
      cases h
      obtain ⟨te, hte, hpos⟩ := hz e rfl
      cases u <;> simp only [descK] at hd <;> first | (cases hd; done) | skip
      have he := Nat.eq_of_beq_eq_true hd
      subst he
      cases hx with
      | ptr _ _ p1 h1 => cases hy with
        | ptr _ _ p2 h2 =>
          rw [h1] at h2
          cases h2
          have hs := hte.run_size w
          have e1 : ((⟨p1.blk, p1.sh + o, none⟩ : Addr) == ⟨p1.blk, p1.sh + p, none⟩) = Nat.beq o p := by
            rw [beq_dec, Bool.eq_iff_iff]
            simp
          have hne : ¬ te.size = 0 := by omega
          show (Op.equalIn (d + 1) t _ _).run P w = _
          rw [Op.equalIn]
          simp [underlying, hu, hs, hne, sameAddr, e1]
theorem eqT_ok {ρ : Plc} {t : TypeId} {tk : TK} {u : TypeDesc} (hu : P.underlying t = some u) (hd : descK tk u = true) (hz : ∀ e, tk = .pt e → ∃ te, TyOk P e te ∧ 0 < te.size) {a b : A} {r : Bool} (h : eqT tk a b = some r) {x y : Value} (hx : AR ρ a x) (hy : AR ρ b y) (w : World) :
    (Op.equal t x y).run P w = .ok r w := eqT_at 9999 hu hd hz h hx hy w
theorem eqK_ok {Γ : Ctx} (hΓ : ∀ t ti, Γ.ty.get t = some ti → TyOk P t ti) (m : Bool) (op : BinOp) (t : TypeId) (x y : A) (k : V → R) (hn : x ≠ .nilIface)
    (hb : ∀ ρ u v, AR ρ x u → AR ρ y v → binOp .eql t u v = (do pure (.bool (← Op.equal t u v)) : Sem Value) ∧ binOp .neq t u v = (do pure (.bool (!(← Op.equal t u v))) : Sem Value)) :
    Ok1 bad (eqK bad Γ m op t x y k) k fun r => BinOk P op t (.at x) (.at y) r := by
  unfold eqK
  refine (tyK_ok hΓ t _).bind fun ti hti => ?_
  have body : (∀ e, ti.k = .pt e → ∃ te, TyOk P e te ∧ 0 < te.size) → Ok1 bad (match op with
    | .eql => match eqT ti.k x y with | some r => boolK m r fun r => k (.at (.bool r)) | none => bad
    | .neq => match eqT ti.k x y with | some r => boolK m (not r) fun r => k (.at (.bool r)) | none => bad
    | _ => bad) k fun r => BinOk P op t (.at x) (.at y) r := by
    intro hz
    obtain ⟨u, hu, hd⟩ := hti.u
    split
    · split
      · rename_i r hr
        rw [boolK_eq]
        refine .inr ⟨_, binOk_of hn fun ρ p q hp hq w => ⟨.bool r, ?_, .bool _⟩, rfl⟩
        rw [(hb ρ p q hp hq).1]
        simp [eqT_ok hu hd hz hr hp hq w]
      · exact .inl rfl
    · split
      · rename_i r hr
        rw [boolK_eq]
        refine .inr ⟨_, binOk_of hn fun ρ p q hp hq w => ⟨.bool (!r), ?_, .bool _⟩, rfl⟩
        rw [(hb ρ p q hp hq).2]
        simp [eqT_ok hu hd hz hr hp hq w]
      · exact .inl rfl
    · exact .inl rfl
  unfold sizedK
  split
  · rename_i e he
    refine (tyK_ok hΓ e _).bind fun te hte => ?_
    cases hs : Nat.blt 0 te.size with
    | false => exact .inl rfl
    | true => exact body fun e' he' => ⟨te, by rw [he] at he'; cases he'; exact hte, blt_t hs⟩
  · rename_i hne
    exact body fun e he => absurd he (hne e)
theorem binA_ok {Γ : Ctx} (hΓ : ∀ t ti, Γ.ty.get t = some ti → TyOk P t ti) (m : Bool) (op : BinOp) (t : TypeId) (x y : A) (k : V → R) : Ok1 bad (binA bad Γ m op t x y k) k fun r => BinOk P op t (.at x) (.at y) r := by
  unfold binA
  split
  · rename_i ka a kb b
    cases hs : shift? op with
    | true =>
      rw [cond_true]
      refine outK1_ok fun r hr => binOk_of (by simp) fun ρ u v hu hv w => ?_
      cases hu with
      | int _ _ h1 => cases hv with
        | int _ _ h2 =>
          obtain ⟨z, e1, e2⟩ := shB_ok ρ h1 hr t
          exact ⟨z, by rw [e1]; rfl, e2⟩
    | false =>
      rw [cond_false]
      cases hk : kEq ka kb with
      | false => exact .inl rfl
      | true =>
        have hk := kn_inj hk
        subst hk
        rw [cond_true]
        refine outK1_ok fun r hr => binOk_of (by simp) fun ρ u v hu hv w => ?_
        cases hu with
        | int _ _ h1 => cases hv with
          | int _ _ h2 =>
            obtain ⟨z, e1, e2⟩ := intB_ok ρ h1 h2 hr t
            exact ⟨z, by rw [e1]; rfl, e2⟩
  · rename_i n s p q
    refine outK1_ok fun r hr => binOk_of (by simp) fun ρ u v hu hv w => ?_
    cases hu with
    | str _ _ _ h1 h2 => cases hv with
      | str _ _ _ h3 h4 =>
        obtain ⟨z, e1, e2⟩ := strB_ok ρ (.str _ _ _ h1 h2) (.str _ _ _ h3 h4) hr t
        exact ⟨z, by rw [e1]; rfl, e2⟩
  · rename_i h1 h2
    by_cases hn : x = .nilIface
    · subst hn
      unfold eqK
      refine (tyK_ok hΓ t _).bind fun ti hti => ?_
      have e0 : eqT ti.k .nilIface y = none := by unfold eqT; split <;> simp_all
      unfold sizedK
      rw [e0]
      split
      · refine (tyK_ok hΓ _ _).bind fun te hte => ?_
        cases Nat.blt 0 te.size
        · exact .inl rfl
        · cases op <;> exact .inl rfl
      · cases op <;> exact .inl rfl
    · refine eqK_ok hΓ m op t x y k hn fun ρ u v hu hv => ?_
      cases hu <;> cases hv <;> first | exact ⟨rfl, rfl⟩ | (exfalso; exact h1 _ _ _ _ rfl rfl) | (exfalso; exact h2 _ _ _ _ rfl rfl)
end
end Go.E
