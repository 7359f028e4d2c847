/-
  E, fourth text: what the evaluator's values stand for; tries, ropes, numbers: proved.
-/
import Derived.Test.YtbecokebaikhaaaGreatEc
namespace Go.E
open Go Go.RowKit Go.V
set_option linter.unusedVariables false
set_option linter.unusedSimpArgs false
universe u v

section ok
variable {R : Type v} {bad : R}
/-- Either it gives up, or what comes next is handed something of which P holds. -/
def Ok1 {α : Type u} (bad e : R) (k : α → R) (P : α → Prop) : Prop := e = bad ∨ ∃ a, P a ∧ e = k a
def Ok2 {α β : Type} (bad e : R) (k : α → β → R) (P : α → β → Prop) : Prop := e = bad ∨ ∃ a b, P a b ∧ e = k a b
def Ok3 {α β γ : Type} (bad e : R) (k : α → β → γ → R) (P : α → β → γ → Prop) : Prop := e = bad ∨ ∃ a b c, P a b c ∧ e = k a b c
variable {α : Type u} {e : R}
theorem Ok1.ret {k : α → R} {P : α → Prop} (a : α) (h : P a) : Ok1 bad (k a) k P := .inr ⟨a, h, rfl⟩
theorem Ok1.mono {k : α → R} {P Q : α → Prop} (h : Ok1 bad e k P) (hq : ∀ a, P a → Q a) : Ok1 bad e k Q := h.imp id fun ⟨a, h1, h2⟩ => ⟨a, hq a h1, h2⟩
theorem Ok1.bind {β : Type u} {j : α → R} {k : β → R} {P : α → Prop} {Q : β → Prop} (h : Ok1 bad e j P) (hq : ∀ a, P a → Ok1 bad (j a) k Q) : Ok1 bad e k Q := by
  rcases h with h | ⟨a, h1, h2⟩
  · exact .inl h
  · rw [h2]; exact hq a h1
end ok

theorem Tr.get_put {α : Type u} {R : Type v} {bad : R} : ∀ (f : Nat) (t : Tr α) (n : Nat) (v : Option α) (k : Tr α → R), Ok1 bad (Tr.put bad f t n v k) k (fun t' => ∀ j, t'.get j = if j = n then v else t.get j)
  | 0, _, _, _, _ => .inl rfl
  | f + 1, t, n, v, k => by
    have key : ∀ (l r : Tr α) (u : Option α) (hg : ∀ j, t.get j = (Tr.nd l u r).get j)
        (hp : Tr.put bad (f + 1) t n v k = bif Nat.beq n 0 then k (.nd l v r) else bif Nat.beq (Nat.mod n 2) 1 then Tr.put bad f l (Nat.div n 2) v (fun t => k (.nd t u r)) else Tr.put bad f r (Nat.pred (Nat.div n 2)) v (fun t => k (.nd l u t))),
        Ok1 bad (Tr.put bad (f + 1) t n v k) k (fun t' => ∀ j, t'.get j = if j = n then v else t.get j) := by
      intro l r u hg hp
      rw [hp]
      have hget : ∀ (l r : Tr α) (u : Option α) (j : Nat), (Tr.nd l u r).get j = if j = 0 then u else if j % 2 = 1 then l.get (j / 2) else r.get (j / 2 - 1) := by
        intro l r u j
        simp only [Tr.get]
        by_cases h0 : j = 0
        · subst h0; rfl
        · have e0 : Nat.beq j 0 = false := by cases hb : Nat.beq j 0 with | false => rfl | true => exact absurd (Nat.eq_of_beq_eq_true hb) h0
          rw [e0, cond_false, if_neg h0]
          by_cases h1 : j % 2 = 1
          · have e1 : Nat.beq (Nat.mod j 2) 1 = true := by show Nat.beq (j % 2) 1 = true; rw [h1]; rfl
            rw [e1, cond_true, if_pos h1]; rfl
          · have e1 : Nat.beq (Nat.mod j 2) 1 = false := by cases hb : Nat.beq (Nat.mod j 2) 1 with | false => rfl | true => exact absurd (Nat.eq_of_beq_eq_true hb) h1
            rw [e1, cond_false, if_neg h1]; rfl
      cases h0 : Nat.beq n 0 with
      | true =>
        have hn := Nat.eq_of_beq_eq_true h0
        subst hn
        refine .inr ⟨_, fun j => ?_, rfl⟩
        rw [hget, hg, hget]
        split <;> simp_all
      | false =>
        have hn := Nat.ne_of_beq_eq_false h0
        cases h1 : Nat.beq (Nat.mod n 2) 1 with
        | true =>
          have h1' : n % 2 = 1 := Nat.eq_of_beq_eq_true h1
          simp only [cond_true, cond_false]
          refine (Tr.get_put f l (Nat.div n 2) v _).imp id fun ⟨t', ht, hk⟩ => ⟨_, fun j => ?_, hk⟩
          rw [hget, hg, hget, ht]
          show (if j = 0 then u else if j % 2 = 1 then (if j / 2 = n / 2 then v else l.get (j / 2)) else r.get (j / 2 - 1)) = _
          by_cases hj : j = n
          · subst hj; rw [if_neg hn, if_pos h1', if_pos rfl, if_pos rfl]
          · rw [if_neg hj]
            by_cases hj0 : j = 0
            · rw [if_pos hj0, if_pos hj0]
            · rw [if_neg hj0, if_neg hj0]
              by_cases hj1 : j % 2 = 1
              · rw [if_pos hj1, if_pos hj1, if_neg (by omega)]
              · rw [if_neg hj1, if_neg hj1]
        | false =>
          have h1' : ¬ n % 2 = 1 := Nat.ne_of_beq_eq_false h1
          simp only [cond_false]
          refine (Tr.get_put f r (Nat.pred (Nat.div n 2)) v _).imp id fun ⟨t', ht, hk⟩ => ⟨_, fun j => ?_, hk⟩
          rw [hget, hg, hget, ht]
          show (if j = 0 then u else if j % 2 = 1 then l.get (j / 2) else (if j / 2 - 1 = n / 2 - 1 then v else r.get (j / 2 - 1))) = _
          by_cases hj : j = n
          · subst hj; rw [if_neg hn, if_neg h1', if_pos rfl, if_pos rfl]
          · rw [if_neg hj]
            by_cases hj0 : j = 0
            · rw [if_pos hj0, if_pos hj0]
            · rw [if_neg hj0, if_neg hj0]
              by_cases hj1 : j % 2 = 1
              · rw [if_pos hj1, if_pos hj1]
              · rw [if_neg hj1, if_neg hj1, if_neg (by omega)]
    cases t with
    | lf => exact key .lf .lf none (fun j => by simp [Tr.get]) rfl
    | nd l u r => exact key l r u (fun _ => rfl) rfl

/-! Numbers. -/
theorem kn_inj {a b : IntKind} (h : kEq a b = true) : a = b := by
  have h := Nat.eq_of_beq_eq_true h
  cases a <;> cases b <;> first | rfl | (cases h)
theorem md_pow (k : IntKind) : md k = 2 ^ k.bits := by cases k <;> rfl
theorem tp_le (k : IntKind) : tp k ≤ md k := by cases k <;> decide
theorem wrap_eq (k : IntKind) (z : Int) : k.wrap z = if k.signed = true ∧ (md k : Int) ≤ 2 * (z % (md k : Int)) then z % (md k : Int) - md k else z % (md k : Int) := by
  cases k <;> simp [IntKind.wrap, IntKind.bits, IntKind.signed, md] <;> split <;> split <;> omega
theorem md_pos (k : IntKind) : 0 < md k := by cases k <;> decide
theorem wrap_emod (k : IntKind) (z : Int) : k.wrap z % (md k : Int) = z % (md k : Int) := by
  rw [wrap_eq]
  split
  · rw [Int.sub_emod_right, Int.emod_emod]
  · rw [Int.emod_emod]
theorem wrap_congr {k : IntKind} {z z' : Int} (h : z % (md k : Int) = z' % (md k : Int)) : k.wrap z = k.wrap z' := by rw [wrap_eq, wrap_eq, h]
theorem wrap_lo {k : IntKind} {n : Nat} (h : n < tp k) : k.wrap (n : Int) = (n : Int) := by
  rw [wrap_eq]
  cases k <;> simp only [tp, md, IntKind.signed, Bool.false_eq_true, false_and, if_false, true_and] at * <;> (try split) <;> omega
theorem wrap_hi {k : IntKind} {n : Nat} (h : tp k ≤ n) (h2 : n < md k) : k.wrap (n : Int) = (n : Int) - md k := by
  rw [wrap_eq]
  cases k <;> simp only [tp, md, IntKind.signed, Bool.false_eq_true, false_and, if_false, true_and] at * <;> (try split) <;> omega
theorem wrap_range (k : IntKind) (n : Nat) (h : n < md k) : k.wrap (n : Int) < tp k ∧ ((tp k : Int) - md k ≤ k.wrap (n : Int)) := by
  rcases Nat.lt_or_ge n (tp k) with h1 | h1
  · rw [wrap_lo h1]
    have := tp_le k
    omega
  · rw [wrap_hi h1 h]
    have := tp_le k
    omega
theorem wrap_inj {k : IntKind} {a b : Nat} (ha : a < md k) (hb : b < md k) (h : k.wrap (a : Int) = k.wrap (b : Int)) : a = b := by
  have h1 := congrArg (· % (md k : Int)) h
  simp only [wrap_emod] at h1
  rw [Int.emod_eq_of_lt (by omega) (by omega), Int.emod_eq_of_lt (by omega) (by omega)] at h1
  omega
/-- What an order says. -/
theorem sb_lt {k : IntKind} {a b : Nat} (ha : a < md k) (hb : b < md k) : k.wrap (a : Int) < k.wrap (b : Int) ↔ sb k a < sb k b := by
  unfold sb
  show _ ↔ (a + hf k) % md k < (b + hf k) % md k
  rcases Nat.lt_or_ge a (tp k) with h1 | h1 <;> rcases Nat.lt_or_ge b (tp k) with h2 | h2
  · rw [wrap_lo h1, wrap_lo h2]; cases k <;> simp only [tp, md, hf] at * <;> omega
  · rw [wrap_lo h1, wrap_hi h2 hb]; cases k <;> simp only [tp, md, hf] at * <;> omega
  · rw [wrap_hi h1 ha, wrap_lo h2]; cases k <;> simp only [tp, md, hf] at * <;> omega
  · rw [wrap_hi h1 ha, wrap_hi h2 hb]; cases k <;> simp only [tp, md, hf] at * <;> omega
theorem sb_le {k : IntKind} {a b : Nat} (ha : a < md k) (hb : b < md k) : k.wrap (a : Int) ≤ k.wrap (b : Int) ↔ sb k a ≤ sb k b := by
  have := sb_lt hb ha
  omega
theorem ofInt_wrap {k : IntKind} {n : Nat} (h : n < md k) : (BitVec.ofInt k.bits (k.wrap (n : Int))).toNat = n := by
  rw [BitVec.toNat_ofInt]
  have e : ((2 ^ k.bits : Nat) : Int) = (md k : Int) := by rw [md_pow]
  rw [e, wrap_emod]
  rw [Int.emod_eq_of_lt (by omega) (by omega)]
  simp

/-- A place: a block, how far behind its first cell, how many cells the block has. -/
structure Pl where
  blk : Nat
  sh : Nat
  size : Nat
abbrev Plc := Nat → Option Pl
def Plc.le (ρ ρ' : Plc) : Prop := ∀ b p, ρ b = some p → ρ' b = some p

inductive AR (ρ : Plc) : A → Value → Prop
  | bool (b : Bool) : AR ρ (.bool b) (.bool b)
  | int (k : IntKind) (n : Nat) (h : n < md k) : AR ρ (.int k n) (.int k (k.wrap n))
  | str (x : ByteArray) (n s : Nat) (hn : x.size = n) (hs : packB x.data.toList = s) : AR ρ (.str n s) (.string x)
  | ptr (b o : Nat) (p : Pl) (h : ρ b = some p) : AR ρ (.ptr b o) (.pointer (some ⟨p.blk, p.sh + o, none⟩))
  | nil : AR ρ .nil (.pointer none)
  | slice (b o n c o' : Nat) (p : Pl) (h : ρ b = some p) (hn : n ≤ c) (hc : c ≤ maxLen) (ho : o' = p.sh + o ∨ c = 0) : AR ρ (.slice b o n c) (.slice (some ⟨p.blk, o', none⟩) n c)
  | slu (b o n z c o' : Nat) (p : Pl) (h : ρ b = some p) (hn : n ≤ c) (hc : c ≤ maxLen) (ho : o' = p.sh + o ∨ c = 0) (hs : o' + c * z ≤ p.size) : AR ρ (.slu b o n z) (.slice (some ⟨p.blk, o', none⟩) n c)
  | nilSlice : AR ρ .nilSlice (.slice none 0 0)
  | map (b : Nat) (p : Pl) (h : ρ b = some p) : AR ρ (.map b) (.map (some p.blk))
  | nilMap : AR ρ .nilMap (.map none)
  | fn (f : Fn) (fs cs : List A) (xs ys : List Value) (h1 : fs.length = xs.length) (h2 : cs.length = ys.length)
      (h3 : ∀ (i : Nat) (a : A) (v : Value), fs[i]? = some a → xs[i]? = some v → AR ρ a v) (h4 : ∀ (i : Nat) (a : A) (v : Value), cs[i]? = some a → ys[i]? = some v → AR ρ a v) : AR ρ (.fn f fs cs) (.func f xs.toArray ys.toArray)
  | nilFunc : AR ρ .nilFunc .nilFunc
  | nilIface : AR ρ .nilIface .nilIface
theorem AR.mono {ρ ρ' : Plc} (hρ : ρ.le ρ') {a : A} {v : Value} (h : AR ρ a v) : AR ρ' a v := by
  induction h with
  | bool b => exact .bool b
  | int k n h => exact .int k n h
  | str x n s hn hs => exact .str x n s hn hs
  | ptr b o p h => exact .ptr b o p (hρ _ _ h)
  | nil => exact .nil
  | slice b o n c o' p h hn hc ho => exact .slice b o n c o' p (hρ _ _ h) hn hc ho
  | slu b o n z c o' p h hn hc ho hs => exact .slu b o n z c o' p (hρ _ _ h) hn hc ho hs
  | nilSlice => exact .nilSlice
  | map b p h => exact .map b p (hρ _ _ h)
  | nilMap => exact .nilMap
  | fn f fs cs xs ys h1 h2 _ _ ih1 ih2 => exact .fn f fs cs xs ys h1 h2 ih1 ih2
  | nilFunc => exact .nilFunc
  | nilIface => exact .nilIface
theorem AR.one {ρ : Plc} {a : A} {v : Value} (h : AR ρ a v) : v.oneCell' = true := by cases h <;> rfl
theorem AR.cells {ρ : Plc} {a : A} {v : Value} (h : AR ρ a v) : v.cells = #[v] := by cases h <;> rfl

/-- The bytes of a number. -/
def byteAt (s i : Nat) : Nat := s / 256 ^ i % 256
def bcells (n s : Nat) : List Value := (List.range n).map fun i => .int .u8 (byteAt s i : Nat)
inductive RR (ρ : Plc) : Rope → List Value → Prop
  | bys (n s : Nat) (h : s < 256 ^ n) : RR ρ (.by n s) (bcells n s)
  | rps (n : Nat) (a : A) (cs : List Value) (hl : cs.length = n) (h : ∀ v ∈ cs, AR ρ a v) : RR ρ (.rp n a) cs
  | nds (n : Nat) (l r : Rope) (xs ys : List Value) (h1 : RR ρ l xs) (h2 : RR ρ r ys) (hn : xs.length = n) : RR ρ (.nd n l r) (xs ++ ys)
theorem RR.mono {ρ ρ' : Plc} (hρ : ρ.le ρ') {r : Rope} {cs : List Value} (h : RR ρ r cs) : RR ρ' r cs := by
  induction h with
  | bys n s h => exact .bys n s h
  | rps n a cs hl h => exact .rps n a cs hl fun v hv => (h v hv).mono hρ
  | nds n l r xs ys _ _ hn ih1 ih2 => exact .nds n l r xs ys ih1 ih2 hn
theorem length_bcells (n s : Nat) : (bcells n s).length = n := by simp [bcells]
theorem RR.len {ρ : Plc} {r : Rope} {cs : List Value} (h : RR ρ r cs) : r.len = cs.length := by
  induction h with
  | bys n s h => simp [Rope.len, length_bcells]
  | rps n a cs hl h => simp [Rope.len, hl]
  | nds n l r xs ys _ _ hn _ ih2 => simp only [Rope.len, ih2, List.length_append, hn]; rfl
theorem RR.one {ρ : Plc} {r : Rope} {cs : List Value} (h : RR ρ r cs) : ∀ v ∈ cs, v.oneCell' = true := by
  induction h with
  | bys n s h => intro v hv; simp only [bcells, List.mem_map] at hv; obtain ⟨i, _, rfl⟩ := hv; rfl
  | rps n a cs hl h => intro u hu; exact (h u hu).one
  | nds n l r xs ys _ _ hn ih1 ih2 => intro v hv; rcases List.mem_append.1 hv with h | h; exact ih1 v h; exact ih2 v h
theorem dn8_eq (s i : Nat) : dn8 s i = s / 256 ^ i := by
  unfold dn8
  show s >>> (8 * i) = _
  rw [Nat.shiftRight_eq_div_pow, show (256 : Nat) = 2 ^ 8 from rfl, ← Nat.pow_mul]
theorem lo8_eq (s i : Nat) : lo8 s i = s % 256 ^ i := by
  unfold lo8
  show s % 2 ^ (8 * i) = _
  rw [show (256 : Nat) = 2 ^ 8 from rfl, ← Nat.pow_mul]
theorem sh8_eq (s i : Nat) : sh8 s i = s * 256 ^ i := by
  unfold sh8
  show s <<< (8 * i) = _
  rw [Nat.shiftLeft_eq, show (256 : Nat) = 2 ^ 8 from rfl, ← Nat.pow_mul]
theorem byteAt_lt (s i : Nat) : byteAt s i < 256 := Nat.mod_lt _ (by decide)
theorem u8_wrap {n : Nat} (h : n < 256) : IntKind.u8.wrap (n : Int) = (n : Int) := wrap_lo (k := .u8) h
theorem AR.u8 (ρ : Plc) {n : Nat} (h : n < 256) : AR ρ (.int .u8 n) (.int .u8 (n : Int)) := by
  have := AR.int (ρ := ρ) .u8 n h
  rwa [u8_wrap h] at this
theorem blt_t {a b : Nat} (h : Nat.blt a b = true) : a < b := Nat.le_of_ble_eq_true h
theorem blt_f {a b : Nat} (h : Nat.blt a b = false) : ¬ a < b := fun h2 => by rw [show Nat.blt a b = true from Nat.ble_eq_true_of_le h2] at h; cases h
theorem ble_f {a b : Nat} (h : Nat.ble a b = false) : ¬ a ≤ b := fun h2 => by rw [Nat.ble_eq_true_of_le h2] at h; cases h
theorem RR.get {ρ : Plc} {r : Rope} {cs : List Value} (h : RR ρ r cs) : ∀ {i : Nat} {a : A}, r.get i = some a → ∃ v, cs[i]? = some v ∧ AR ρ a v := by
  induction h with
  | bys n s h =>
    intro i a hg
    simp only [Rope.get] at hg
    cases hi : Nat.blt i n with
    | false => rw [hi] at hg; cases hg
    | true =>
      rw [hi, cond_true] at hg
      have hlt := blt_t hi
      cases h1 : Nat.beq n 1 with
      | true =>
        rw [h1, cond_true] at hg
        cases hg
        have h1 := Nat.eq_of_beq_eq_true h1
        subst h1
        have h0 : i = 0 := by omega
        subst h0
        have hs : s < 256 := by simpa using h
        refine ⟨_, rfl, ?_⟩
        have e : byteAt s 0 = s := by simp [byteAt, Nat.mod_eq_of_lt hs]
        show AR ρ (.int .u8 s) (.int .u8 ((byteAt s 0 : Nat) : Int))
        rw [e]; exact AR.u8 ρ hs
      | false =>
        rw [h1, cond_false] at hg
        cases hg
        have e : lo8 (dn8 s i) 1 = byteAt s i := by rw [lo8_eq, dn8_eq]; rfl
        rw [e]
        exact ⟨_, by simp [bcells, hlt], AR.u8 ρ (byteAt_lt s i)⟩
  | rps n a cs hl h =>
    intro i b hg
    simp only [Rope.get] at hg
    cases hi : Nat.blt i n with
    | false => rw [hi] at hg; cases hg
    | true =>
      rw [hi, cond_true] at hg
      cases hg
      have hlt : i < cs.length := by rw [hl]; exact blt_t hi
      exact ⟨cs[i], by simp [hlt], h _ (List.getElem_mem hlt)⟩
  | nds n l r xs ys _ _ hn ih1 ih2 =>
    intro i a hg
    simp only [Rope.get] at hg
    cases hi : Nat.blt i n with
    | true =>
      rw [hi, cond_true] at hg
      obtain ⟨v, h1, h2⟩ := ih1 hg
      exact ⟨v, by rw [List.getElem?_append_left (by have := blt_t hi; omega)]; exact h1, h2⟩
    | false =>
      rw [hi, cond_false] at hg
      obtain ⟨v, h1, h2⟩ := ih2 hg
      have := blt_f hi
      exact ⟨v, by rw [List.getElem?_append_right (by omega), hn]; exact h1, h2⟩
theorem byteAt_low {s t a i : Nat} (hs : s < 256 ^ a) (hi : i < a) : byteAt (s + t * 256 ^ a) i = byteAt s i := by
  unfold byteAt
  obtain ⟨d, rfl⟩ : ∃ d, a = i + 1 + d := ⟨a - (i + 1), by omega⟩
  have e : t * 256 ^ (i + 1 + d) = 256 ^ i * (256 * (256 ^ d * t)) := by rw [Nat.pow_add, Nat.pow_succ]; grind
  rw [e, Nat.add_mul_div_left _ _ (Nat.pow_pos (by decide)), Nat.add_mul_mod_self_left]
theorem byteAt_high {s t a i : Nat} (hs : s < 256 ^ a) : byteAt (s + t * 256 ^ a) (a + i) = byteAt t i := by
  unfold byteAt
  rw [Nat.pow_add, ← Nat.div_div_eq_div_mul, Nat.add_mul_div_right _ _ (Nat.pow_pos (by decide)), Nat.div_eq_of_lt hs, Nat.zero_add]
theorem byteAt_sub {s o c i : Nat} (hi : i < c) : byteAt (s / 256 ^ o % 256 ^ c) i = byteAt s (o + i) := by
  unfold byteAt
  obtain ⟨d, rfl⟩ : ∃ d, c = i + (1 + d) := ⟨c - (i + 1), by omega⟩
  rw [Nat.pow_add, Nat.mod_mul_right_div_self, Nat.pow_add, Nat.pow_one, Nat.mod_mul_right_mod, Nat.div_div_eq_div_mul, ← Nat.pow_add]
theorem bcells_get {n s i : Nat} (h : i < n) : (bcells n s)[i]? = some (.int .u8 (byteAt s i : Nat)) := by simp [bcells, h]
theorem bcells_app {n m s t : Nat} (hs : s < 256 ^ n) : bcells (n + m) (s + t * 256 ^ n) = bcells n s ++ bcells m t := by
  apply List.ext_getElem?
  intro i
  rcases Nat.lt_or_ge i n with h | h
  · rw [List.getElem?_append_left (by rw [length_bcells]; exact h), bcells_get h, bcells_get (by omega), byteAt_low hs h]
  · rw [List.getElem?_append_right (by rw [length_bcells]; exact h), length_bcells]
    rcases Nat.lt_or_ge i (n + m) with h2 | h2
    · obtain ⟨j, rfl⟩ : ∃ j, i = n + j := ⟨i - n, by omega⟩
      rw [bcells_get h2, show n + j - n = j by omega, bcells_get (by omega), byteAt_high hs]
    · rw [List.getElem?_eq_none (by rw [length_bcells]; omega), List.getElem?_eq_none (by rw [length_bcells]; omega)]
theorem bcells_sub {n s o c : Nat} (h : o + c ≤ n) : bcells c (s / 256 ^ o % 256 ^ c) = ((bcells n s).drop o).take c := by
  apply List.ext_getElem?
  intro i
  rcases Nat.lt_or_ge i c with h1 | h1
  · rw [List.getElem?_take, if_pos h1, List.getElem?_drop, bcells_get h1, bcells_get (by omega), byteAt_sub h1]
  · rw [List.getElem?_take, if_neg (by omega), List.getElem?_eq_none (by rw [length_bcells]; omega)]
theorem app_lt {n m s t : Nat} (hs : s < 256 ^ n) (ht : t < 256 ^ m) : s + t * 256 ^ n < 256 ^ (n + m) := by
  rw [Nat.pow_add]
  have : (t + 1) * 256 ^ n ≤ 256 ^ m * 256 ^ n := Nat.mul_le_mul_right _ ht
  rw [Nat.add_mul, Nat.one_mul] at this
  rw [Nat.mul_comm (256 ^ n)]
  omega
section
variable {R : Type}
theorem two_t {a b : Bool} (h : two a b = true) : a = true ∧ b = true := by cases a <;> cases b <;> first | exact ⟨rfl, rfl⟩ | cases h
theorem jn_ok (m : Bool) (n : Nat) (x y : Rope) (k : Rope → R) : ∃ r, jn m n x y k = k r ∧ ∀ ρ xs ys, RR ρ x xs → RR ρ y ys → xs.length = n → RR ρ r (xs ++ ys) := by
  unfold jn
  cases h0 : Nat.beq n 0 with
  | true =>
    have h0 := Nat.eq_of_beq_eq_true h0
    exact ⟨y, rfl, fun ρ xs ys hx hy hl => by
      have : xs = [] := List.eq_nil_of_length_eq_zero (by omega)
      subst this; exact hy⟩
  | false =>
    rw [cond_false]
    split
    · rename_i a s b t
      simp only [natK_eq]
      cases two m (Nat.ble (a.add b) 1024)
      rotate_left
      · refine ⟨_, rfl, fun ρ xs ys hx hy hl => ?_⟩
        cases hx with
        | bys _ _ hs => cases hy with
          | bys _ _ ht =>
            rw [sh8_eq]
            show RR ρ (.by (a + b) (s + t * 256 ^ a)) _
            rw [← bcells_app hs]
            exact .bys _ _ (app_lt hs ht)
      · exact ⟨_, rfl, fun ρ xs ys hx hy hl => .nds _ _ _ _ _ hx hy hl⟩
    · exact ⟨_, rfl, fun ρ xs ys hx hy hl => .nds _ _ _ _ _ hx hy hl⟩
theorem sub_ok (bad : R) (m : Bool) : ∀ (r : Rope) (o c : Nat) (k : Rope → R), Ok1 bad (r.sub bad m o c k) k fun r' => ∀ ρ cs, RR ρ r cs → o + c ≤ cs.length ∧ RR ρ r' ((cs.drop o).take c) := by
  intro r
  induction r with
  | «by» n s =>
    intro o c k
    simp only [Rope.sub, natK_eq]
    cases h1 : Nat.ble (Nat.add o c) n with
    | false => exact .inl rfl
    | true =>
      have h1 : o + c ≤ n := Nat.le_of_ble_eq_true h1
      rw [cond_true]
      cases h2 : Nat.beq c n with
      | true =>
        have h2 := Nat.eq_of_beq_eq_true h2
        refine .inr ⟨_, fun ρ cs h => ?_, rfl⟩
        have hl := h.len
        simp only [Rope.len] at hl
        have h0 : o = 0 := by omega
        subst h0
        refine ⟨by omega, ?_⟩
        rw [List.drop_zero, List.take_of_length_le (by omega)]
        exact h
      | false =>
        refine .inr ⟨_, fun ρ cs h => ?_, rfl⟩
        cases h with
        | bys _ _ hs =>
          refine ⟨by rw [length_bcells]; exact h1, ?_⟩
          rw [lo8_eq, dn8_eq, ← bcells_sub h1]
          exact .bys _ _ (Nat.mod_lt _ (Nat.pow_pos (by decide)))
  | rp n a =>
    intro o c k
    simp only [Rope.sub, natK_eq]
    cases h1 : Nat.ble (Nat.add o c) n with
    | false => exact .inl rfl
    | true =>
      have h1 : o + c ≤ n := Nat.le_of_ble_eq_true h1
      refine .inr ⟨_, fun ρ cs h => ?_, rfl⟩
      cases h with
      | rps _ _ _ hl hv =>
        refine ⟨by rw [hl]; exact h1, ?_⟩
        exact .rps _ _ _ (by rw [List.length_take, List.length_drop]; omega) fun v hm => hv v (List.mem_of_mem_drop (List.mem_of_mem_take hm))
  | nd n l r ihl ihr =>
    intro o c k
    simp only [Rope.sub, natK_eq]
    cases h1 : Nat.ble (Nat.add o c) n with
    | true =>
      have h1 : o + c ≤ n := Nat.le_of_ble_eq_true h1
      refine (ihl o c k).mono fun r' hr ρ cs h => ?_
      cases h with
      | nds _ _ _ xs ys hx hy hn =>
        obtain ⟨h2, h3⟩ := hr ρ xs hx
        refine ⟨by rw [List.length_append]; omega, ?_⟩
        rw [List.drop_append_of_le_length (by omega), List.take_append_of_le_length (by rw [List.length_drop]; omega)]
        exact h3
    | false =>
      have h1 : ¬ o + c ≤ n := ble_f h1
      rw [cond_false]
      cases h2 : Nat.ble n o with
      | true =>
        have h2 : n ≤ o := Nat.le_of_ble_eq_true h2
        refine (ihr (Nat.sub o n) c k).mono fun r' hr ρ cs h => ?_
        cases h with
        | nds _ _ _ xs ys hx hy hn =>
          obtain ⟨h3, h4⟩ := hr ρ ys hy
          have h3 : o - n + c ≤ ys.length := h3
          refine ⟨by rw [List.length_append]; omega, ?_⟩
          rw [List.drop_append, List.drop_eq_nil_of_le (by omega), List.nil_append, hn]
          exact h4
      | false =>
        have h2 : ¬ n ≤ o := ble_f h2
        rw [cond_false]
        refine (ihl o (Nat.sub n o) _).bind fun x hx => ?_
        refine (ihr 0 (Nat.sub (Nat.add o c) n) _).bind fun y hy => ?_
        obtain ⟨r', hk, hr⟩ := jn_ok m (Nat.sub n o) x y k
        rw [hk]
        refine .inr ⟨r', fun ρ cs h => ?_, rfl⟩
        cases h with
        | nds _ _ _ xs ys hxs hys hn =>
          obtain ⟨h3, h4⟩ := hx ρ xs hxs
          obtain ⟨h5, h6⟩ := hy ρ ys hys
          have h5 : 0 + (o + c - n) ≤ ys.length := h5
          have h3 : o + (n - o) ≤ xs.length := h3
          refine ⟨by rw [List.length_append]; omega, ?_⟩
          have h7 := hr ρ _ _ h4 h6 (by rw [List.length_take, List.length_drop]; show min (n - o) _ = n - o; omega)
          have e : ((xs ++ ys).drop o).take c = (xs.drop o).take (n - o) ++ (ys.drop 0).take (o + c - n) := by
            rw [List.drop_append_of_le_length (by omega), List.take_append, List.drop_zero]
            congr 1
            · rw [List.take_of_length_le (by rw [List.length_drop]; omega), List.take_of_length_le (by rw [List.length_drop]; omega)]
            · rw [List.length_drop]; congr 1; omega
          rw [e]
          exact h7
/-- Cells put over others. -/
def over (cs : List Value) (o : Nat) (xs : List Value) : List Value := cs.take o ++ (xs ++ cs.drop (o + xs.length))
theorem over_left {xs ys zs : List Value} {o : Nat} (h : o + zs.length ≤ xs.length) : over (xs ++ ys) o zs = over xs o zs ++ ys := by
  unfold over
  rw [List.take_append_of_le_length (by omega), List.drop_append_of_le_length (by omega)]
  simp
theorem over_right {xs ys zs : List Value} {o : Nat} (h : xs.length ≤ o) : over (xs ++ ys) o zs = xs ++ over ys (o - xs.length) zs := by
  unfold over
  rw [List.take_append, List.take_of_length_le h, List.drop_append, List.drop_eq_nil_of_le (by omega), List.nil_append, show o + zs.length - xs.length = o - xs.length + zs.length by omega]
  simp
theorem over_mid {xs ys zs : List Value} {o : Nat} (h : o ≤ xs.length) (h2 : xs.length ≤ o + zs.length) : over (xs ++ ys) o zs = over xs o (zs.take (xs.length - o)) ++ over ys 0 (zs.drop (xs.length - o)) := by
  unfold over
  have e1 : (zs.take (xs.length - o)).length = xs.length - o := by rw [List.length_take]; omega
  have e2 : (zs.drop (xs.length - o)).length = o + zs.length - xs.length := by rw [List.length_drop]; omega
  rw [e1, e2, List.take_append_of_le_length h, List.drop_append, List.drop_eq_nil_of_le h2, List.nil_append, List.drop_eq_nil_of_le (as := xs) (i := o + (xs.length - o)) (by omega), List.take_zero, Nat.zero_add]
  simp only [List.append_nil, List.nil_append, List.append_assoc]
  rw [← List.append_assoc (zs.take _), List.take_append_drop]
theorem upd_ok (bad : R) (m : Bool) : ∀ (r : Rope) (o c : Nat) (x : Rope) (k : Rope → R), Ok1 bad (r.upd bad m o c x k) k fun r' => ∀ ρ cs xs, RR ρ r cs → RR ρ x xs → xs.length = c → o + c ≤ cs.length ∧ RR ρ r' (over cs o xs) := by
  intro r
  induction r with
  | «by» n s =>
    intro o c x k
    simp only [Rope.upd, natK_eq]
    cases h1 : Nat.ble (Nat.add o c) n with
    | false => exact .inl rfl
    | true =>
      have h1 : o + c ≤ n := Nat.le_of_ble_eq_true h1
      rw [cond_true]
      have hcut : ∀ ρ cs, RR ρ (.by n s) cs → RR ρ (.by o (lo8 s o)) (cs.take o) ∧ RR ρ (.by (Nat.sub n (Nat.add o c)) (dn8 s (Nat.add o c))) (cs.drop (o + c)) ∧ cs.length = n := by
        intro ρ cs h
        cases h with
        | bys _ _ hs =>
          refine ⟨?_, ?_, length_bcells _ _⟩
          · have e := bcells_sub (n := n) (s := s) (o := 0) (c := o) (by omega)
            rw [List.drop_zero, Nat.pow_zero, Nat.div_one] at e
            rw [lo8_eq, ← e]
            exact .bys _ _ (Nat.mod_lt _ (Nat.pow_pos (by decide)))
          · have e := bcells_sub (n := n) (s := s) (o := o + c) (c := n - (o + c)) (by omega)
            rw [List.take_of_length_le (by rw [List.length_drop, length_bcells]; omega)] at e
            have hlt : s / 256 ^ (o + c) < 256 ^ (n - (o + c)) := by
              rw [Nat.div_lt_iff_lt_mul (Nat.pow_pos (by decide)), ← Nat.pow_add]
              rwa [show n - (o + c) + (o + c) = n by omega]
            rw [Nat.mod_eq_of_lt hlt] at e
            rw [dn8_eq, ← e]
            exact .bys _ _ hlt
      cases h2 : Nat.beq c n with
      | true =>
        have h2 := Nat.eq_of_beq_eq_true h2
        refine .inr ⟨_, fun ρ cs xs h hx hc => ?_, rfl⟩
        have hl := (hcut ρ cs h).2.2
        have h0 : o = 0 := by omega
        subst h0
        refine ⟨by omega, ?_⟩
        unfold over
        rw [List.drop_eq_nil_of_le (by omega)]
        simpa using hx
      | false =>
        rw [cond_false]
        cases h3 : Nat.beq (Nat.sub n (Nat.add o c)) 0 with
        | true =>
          have h3 : n - (o + c) = 0 := Nat.eq_of_beq_eq_true h3
          obtain ⟨r', hk, hr⟩ := jn_ok m o (.by o (lo8 s o)) x k
          rw [cond_true, hk]
          refine .inr ⟨r', fun ρ cs xs h hx hc => ?_, rfl⟩
          obtain ⟨c1, c2, hl⟩ := hcut ρ cs h
          refine ⟨by omega, ?_⟩
          have := hr ρ _ _ c1 hx (by rw [List.length_take]; omega)
          unfold over
          rw [List.drop_eq_nil_of_le (by omega), List.append_nil]
          exact this
        | false =>
          obtain ⟨r1, hk1, hr1⟩ := jn_ok m c x (.by (Nat.sub n (Nat.add o c)) (dn8 s (Nat.add o c))) (fun y => jn m o (.by o (lo8 s o)) y k)
          rw [cond_false, hk1]
          obtain ⟨r', hk, hr⟩ := jn_ok m o (.by o (lo8 s o)) r1 k
          rw [hk]
          refine .inr ⟨r', fun ρ cs xs h hx hc => ?_, rfl⟩
          obtain ⟨c1, c2, hl⟩ := hcut ρ cs h
          refine ⟨by omega, ?_⟩
          unfold over
          rw [hc]
          exact hr ρ _ _ c1 (hr1 ρ _ _ hx c2 hc) (by rw [List.length_take]; omega)
  | rp n a =>
    intro o c x k
    simp only [Rope.upd, natK_eq]
    cases h1 : Nat.ble (Nat.add o c) n with
    | false => exact .inl rfl
    | true =>
      have h1 : o + c ≤ n := Nat.le_of_ble_eq_true h1
      rw [cond_true]
      have hcut : ∀ ρ cs, RR ρ (.rp n a) cs → RR ρ (.rp o a) (cs.take o) ∧ RR ρ (.rp (Nat.sub n (Nat.add o c)) a) (cs.drop (o + c)) ∧ cs.length = n := by
        intro ρ cs h
        cases h with
        | rps _ _ _ hl hv =>
          exact ⟨.rps _ _ _ (by rw [List.length_take]; omega) fun v hm => hv v (List.mem_of_mem_take hm), .rps _ _ _ (by rw [List.length_drop]; show _ = n - (o + c); omega) fun v hm => hv v (List.mem_of_mem_drop hm), hl⟩
      cases h2 : Nat.beq c n with
      | true =>
        have h2 := Nat.eq_of_beq_eq_true h2
        refine .inr ⟨_, fun ρ cs xs h hx hc => ?_, rfl⟩
        have hl := (hcut ρ cs h).2.2
        have h0 : o = 0 := by omega
        subst h0
        refine ⟨by omega, ?_⟩
        unfold over
        rw [List.drop_eq_nil_of_le (by omega)]
        simpa using hx
      | false =>
        rw [cond_false]
        cases h3 : Nat.beq (Nat.sub n (Nat.add o c)) 0 with
        | true =>
          have h3 : n - (o + c) = 0 := Nat.eq_of_beq_eq_true h3
          obtain ⟨r', hk, hr⟩ := jn_ok m o (.rp o a) x k
          rw [cond_true, hk]
          refine .inr ⟨r', fun ρ cs xs h hx hc => ?_, rfl⟩
          obtain ⟨c1, c2, hl⟩ := hcut ρ cs h
          refine ⟨by omega, ?_⟩
          have := hr ρ _ _ c1 hx (by rw [List.length_take]; omega)
          unfold over
          rw [List.drop_eq_nil_of_le (by omega), List.append_nil]
          exact this
        | false =>
          obtain ⟨r1, hk1, hr1⟩ := jn_ok m c x (.rp (Nat.sub n (Nat.add o c)) a) (fun y => jn m o (.rp o a) y k)
          rw [cond_false, hk1]
          obtain ⟨r', hk, hr⟩ := jn_ok m o (.rp o a) r1 k
          rw [hk]
          refine .inr ⟨r', fun ρ cs xs h hx hc => ?_, rfl⟩
          obtain ⟨c1, c2, hl⟩ := hcut ρ cs h
          refine ⟨by omega, ?_⟩
          unfold over
          rw [hc]
          exact hr ρ _ _ c1 (hr1 ρ _ _ hx c2 hc) (by rw [List.length_take]; omega)
  | nd n l r ihl ihr =>
    intro o c x k
    simp only [Rope.upd]
    cases h1 : Nat.ble (Nat.add o c) n with
    | true =>
      have h1 : o + c ≤ n := Nat.le_of_ble_eq_true h1
      rw [cond_true]
      refine (ihl o c x _).bind fun l' hl' => ?_
      obtain ⟨r', hk, hr⟩ := jn_ok m n l' r k
      rw [hk]
      refine .inr ⟨r', fun ρ cs xs h hx hc => ?_, rfl⟩
      cases h with
      | nds _ _ _ as bs ha hb hn =>
        obtain ⟨h2, h3⟩ := hl' ρ as xs ha hx hc
        refine ⟨by rw [List.length_append]; omega, ?_⟩
        rw [over_left (by omega)]
        exact hr ρ _ _ h3 hb (by unfold over; simp; omega)
    | false =>
      have h1 : ¬ o + c ≤ n := ble_f h1
      rw [cond_false]
      cases h2 : Nat.ble n o with
      | true =>
        have h2 : n ≤ o := Nat.le_of_ble_eq_true h2
        rw [cond_true]
        refine (ihr (Nat.sub o n) c x _).bind fun r1 hr1 => ?_
        obtain ⟨r', hk, hr⟩ := jn_ok m n l r1 k
        rw [hk]
        refine .inr ⟨r', fun ρ cs xs h hx hc => ?_, rfl⟩
        cases h with
        | nds _ _ _ as bs ha hb hn =>
          obtain ⟨h3, h4⟩ := hr1 ρ bs xs hb hx hc
          have h3 : o - n + c ≤ bs.length := h3
          refine ⟨by rw [List.length_append]; omega, ?_⟩
          rw [over_right (by omega), hn]
          exact hr ρ _ _ ha h4 hn
      | false =>
        have h2 : ¬ n ≤ o := ble_f h2
        rw [cond_false]
        refine (sub_ok bad m x 0 (Nat.sub n o) _).bind fun x1 hx1 => ?_
        refine (sub_ok bad m x (Nat.sub n o) (Nat.sub (Nat.add o c) n) _).bind fun x2 hx2 => ?_
        refine (ihl o (Nat.sub n o) x1 _).bind fun l' hl' => ?_
        refine (ihr 0 (Nat.sub (Nat.add o c) n) x2 _).bind fun r1 hr1 => ?_
        obtain ⟨r', hk, hr⟩ := jn_ok m n l' r1 k
        rw [hk]
        refine .inr ⟨r', fun ρ cs xs h hx hc => ?_, rfl⟩
        cases h with
        | nds _ _ _ as bs ha hb hn =>
          have y1 := (hx1 ρ xs hx).2
          have y2 := (hx2 ρ xs hx).2
          rw [List.drop_zero] at y1
          have z1 := hl' ρ as _ ha y1 (by rw [List.length_take]; show min (n - o) _ = n - o; omega)
          have z2 := hr1 ρ bs _ hb y2 (by rw [List.length_take, List.length_drop]; show min (o + c - n) (_ - (n - o)) = o + c - n; omega)
          have z1a : o + (n - o) ≤ as.length := z1.1
          have z2a : 0 + (o + c - n) ≤ bs.length := z2.1
          refine ⟨by rw [List.length_append]; omega, ?_⟩
          rw [over_mid (by omega) (by omega)]
          have e1 : xs.take (as.length - o) = xs.take (Nat.sub n o) := by rw [hn]; rfl
          have e2 : xs.drop (as.length - o) = (xs.drop (Nat.sub n o)).take (Nat.sub (Nat.add o c) n) := by
            rw [hn, List.take_of_length_le]
            · rfl
            · rw [List.length_drop]; show _ - (n - o) ≤ o + c - n; omega
          rw [e1, e2]
          exact hr ρ _ _ z1.2 z2.2 (by unfold over; simp; show _ = n; omega)
end
end Go.E
