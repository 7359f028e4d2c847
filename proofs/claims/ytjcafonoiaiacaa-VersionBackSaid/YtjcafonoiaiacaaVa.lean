/-
  V: a calculus for walks. A frame is a list of the slots whose values are known; each operation of the program is one rule; what an operation computes is found by unfolding. This text: frames, code, the operations that only compute.
-/
import Derived.WalkKit
import Derived.WalkSpells
import Derived.WalkLawsBesides
namespace Go.V
open Go Go.RowKit

/-- The slots of which something is known, the latest first. -/
abbrev Env := List (Nat × Value)
abbrev Post := Exit → Env → World → Prop

def find : Env → Nat → Option Value
  | [], _ => none
  | (k, v) :: r, t => bif Nat.beq k t then some v else find r t

def val (e : Env) : Operand → Option Value
  | .tmp t => find e t
  | .const v => some v
  | .global g => some (.pointer (some ⟨g, 0, none⟩))
  | .func f => some (.func (.func f) #[] #[])

structure Fits (n : Nat) (e : Env) (a : Act) : Prop where
  defers : a.defers = []
  size : a.tmps.size = n
  get : ∀ t v, find e t = some v → a.tmps.getD t undef = v

theorem Fits.eval {n : Nat} {e : Env} {a : Act} (h : Fits n e a) {x : Operand} {v : Value} (hv : val e x = some v) : a.eval x = v := by
  cases x with
  | tmp t => exact h.get t v hv
  | const u => exact Option.some.inj hv
  | global g => exact Option.some.inj hv
  | func f => exact Option.some.inj hv

theorem find_cons (k : Nat) (v : Value) (e : Env) (t : Nat) : find ((k, v) :: e) t = if k = t then some v else find e t := by
  simp only [find]
  cases h : Nat.beq k t with
  | true => simp [Nat.eq_of_beq_eq_true h]
  | false => simp [Nat.ne_of_beq_eq_false h]

theorem Fits.put {n : Nat} {e : Env} {a : Act} (h : Fits n e a) {d : Nat} (hd : Nat.blt d n = true) (v : Value) : Fits n ((d, v) :: e) (a.put (some d) v) := by
  have hlt : d < a.tmps.size := by rw [h.size]; exact Nat.le_of_ble_eq_true hd
  refine ⟨h.defers, by simp [Act.put, h.size], fun t u hu => ?_⟩
  rw [find_cons] at hu
  by_cases ht : d = t
  · subst ht
    simp only [if_true, Option.some.injEq] at hu
    subst hu
    simp [Act.put, hlt]
  · rw [if_neg ht] at hu
    have := h.get t u hu
    simp only [Act.put]
    simp only [Array.getD_eq_getD_getElem?] at this ⊢
    rw [Array.getElem?_setIfInBounds_ne ht]
    exact this

theorem Fits.same {n : Nat} {e : Env} {a : Act} (h : Fits n e a) {t : Nat} {u v : Value} (hf : find e t = some u) (huv : u = v) : Fits n ((t, v) :: e) a := by
  refine ⟨h.defers, h.size, fun s x hx => ?_⟩
  rw [find_cons] at hx
  by_cases hs : t = s
  · subst hs
    simp only [if_true, Option.some.injEq] at hx
    subst hx; subst huv
    exact h.get t u hf
  · rw [if_neg hs] at hx
    exact h.get s x hx

/-- What is known in e' is known in e. -/
def Sub : Env → Env → Prop
  | [], _ => True
  | (k, v) :: r, e => find e k = some v ∧ Sub r e

theorem Sub.find {e' e : Env} (h : Sub e' e) {t : Nat} {v : Value} (hv : find e' t = some v) : find e t = some v := by
  induction e' with
  | nil => cases hv
  | cons p r ih =>
    obtain ⟨k, u⟩ := p
    rw [find_cons] at hv
    by_cases hk : k = t
    · subst hk
      simp only [if_true, Option.some.injEq] at hv
      subst hv
      exact h.1
    · rw [if_neg hk] at hv
      exact ih h.2 hv

theorem Fits.sub {n : Nat} {e' e : Env} {a : Act} (h : Fits n e a) (hs : Sub e' e) : Fits n e' a :=
  ⟨h.defers, h.size, fun t v hv => h.get t v (hs.find hv)⟩

def lift (n : Nat) (Q : Post) : Exit → Act → World → Prop := fun x a w => ∃ e, Fits n e a ∧ Q x e w

/-- Code, from a frame of which e is known, in world w. -/
def T (P : Program) (n : Nat) (c : Code) (e : Env) (w : World) (Q : Post) : Prop := ∀ a, Fits n e a → c.wp P (lift n Q) a w
/-- Operations of a region. -/
def TL (P : Program) (n : Nat) (ops : Array Oper) (l : List Oper) (e : Env) (w : World) (Q : Post) : Prop := ∀ a, Fits n e a → wpList P ops (lift n Q) l a w

def thenQ (P : Program) (n : Nat) (y : Code) (Q : Post) : Post := fun x e w =>
  match x with
  | .normal => T P n y e w Q
  | x => Q x e w
def loopQ {S : Type} (E : S → Env) (J : S → World → Prop) (m : S → Nat) (s : S) (Q : Post) : Post := fun x e w =>
  match x with
  | .normal => ∃ s', Sub (E s') e ∧ J s' w ∧ m s' < m s
  | x => Q x e w
def blockQ (id : Nat) (Q : Post) : Post := fun x e w =>
  match x with
  | .exit i => bif Nat.beq i id then Q .normal e w else Q (.exit i) e w
  | x => Q x e w

section rules
variable {P : Program} {n : Nat} {e : Env} {w : World} {Q : Post}

theorem T.mono {c : Code} {Q' : Post} (h : T P n c e w Q) (hq : ∀ x e w, Q x e w → Q' x e w) : T P n c e w Q' :=
  fun a ha => wp_mono (h a ha) fun _ _ _ ⟨e, he, hx⟩ => ⟨e, he, hq _ _ _ hx⟩
theorem TL.mono_env {ops : Array Oper} {l : List Oper} {e' : Env} (hs : Sub e' e) (h : TL P n ops l e' w Q) : TL P n ops l e w Q :=
  fun a ha => h a (ha.sub hs)
theorem T.weaken {c : Code} {e' : Env} (h : T P n c e' w Q) (hs : Sub e' e) : T P n c e w Q := fun a ha => h a (ha.sub hs)

theorem T.seq {x y : Code} (h : T P n x e w (thenQ P n y Q)) : T P n (.seq x y) e w Q := fun a ha =>
  wp_seq (wp_mono (h a ha) fun ex a w ⟨e, he, hq⟩ => by
    cases ex <;> first | exact hq a he | exact ⟨e, he, hq⟩)
theorem T.skip (h : Q .normal e w) : T P n .skip e w Q := fun _ ha => wp_skip ⟨e, ha, h⟩
theorem T.label {l : Nat} (h : Q .normal e w) : T P n (.label l) e w Q := fun _ ha => wp_label ⟨e, ha, h⟩
theorem T.exit {id : Nat} (h : Q (.exit id) e w) : T P n (.exit id) e w Q := fun _ ha => wp_exit ⟨e, ha, h⟩
theorem T.goto {l : Nat} (h : Q (.goto l) e w) : T P n (.goto l) e w Q := fun _ ha => wp_goto ⟨e, ha, h⟩
theorem T.ret (h : Q .ret e w) : T P n .ret e w Q := fun _ ha => wp_ret ⟨e, ha, h⟩
theorem T.block {id : Nat} {c : Code} (h : T P n c e w (blockQ id Q)) : T P n (.block id c) e w Q := fun a ha =>
  wp_block (wp_mono (h a ha) fun ex a w ⟨e, he, hq⟩ => by
    cases ex with
    | exit i =>
      simp only [Exit.inBlock, blockQ] at hq ⊢
      cases hi : Nat.beq i id with
      | true => rw [hi] at hq; rw [if_pos (Nat.eq_of_beq_eq_true hi)]; exact ⟨e, he, hq⟩
      | false => rw [hi] at hq; rw [if_neg (Nat.ne_of_beq_eq_false hi)]; exact ⟨e, he, hq⟩
    | _ => exact ⟨e, he, hq⟩)
theorem T.cond {c : Operand} {x y : Code} {b : Bool} (hc : val e c = some (.bool b)) (ht : b = true → T P n x e w Q) (hf : b = false → T P n y e w Q) :
    T P n (.cond c x y) e w Q := fun a ha => wp_cond_split (ha.eval hc) (fun h => ht h a ha) (fun h => hf h a ha)
theorem T.cond_true {c : Operand} {x y : Code} (hc : val e c = some (.bool true)) (ht : T P n x e w Q) : T P n (.cond c x y) e w Q :=
  fun a ha => wp_cond_true (ha.eval hc) (ht a ha)
theorem T.cond_false {c : Operand} {x y : Code} (hc : val e c = some (.bool false)) (hf : T P n y e w Q) : T P n (.cond c x y) e w Q :=
  fun a ha => wp_cond_false (ha.eval hc) (hf a ha)

theorem T.cond_yes {c : Operand} {x y : Code} {b : Bool} (hc : val e c = some (.bool b)) (hb : b = true) (ht : T P n x e w Q) : T P n (.cond c x y) e w Q :=
  T.cond hc (fun _ => ht) (fun h => by rw [hb] at h; cases h)
theorem T.cond_no {c : Operand} {x y : Code} {b : Bool} (hc : val e c = some (.bool b)) (hb : b = false) (hf : T P n y e w Q) : T P n (.cond c x y) e w Q :=
  T.cond hc (fun h => by rw [hb] at h; cases h) (fun _ => hf)

/-- A loop: s is what its rounds are about, E the slots at a round's head, J the world. -/
theorem T.loop {c : Code} {S : Type} (E : S → Env) (J : S → World → Prop) (m : S → Nat) (s : S) (h0 : Sub (E s) e) (hj : J s w)
    (round : ∀ s w, J s w → T P n c (E s) w (loopQ E J m s Q)) : T P n (.loop c) e w Q := by
  intro a ha
  have key : ∀ k (s : S) (a : Act) (w : World), m s = k → Fits n (E s) a → J s w →
      ∀ (b : Frame) (kk : List Item) (cs : List Frame), ∃ e a' w', lift n Q e a' w' ∧ Arrives P (lone (b.at a (.code c :: .inLoop c :: kk)) cs w) b kk cs e a' w' := by
    intro k
    induction k using Nat.strongRecOn with
    | _ k ih =>
      intro s a w hk hf hj b kk cs
      obtain ⟨ex, a1, w1, hq, harr⟩ := round s w hj a hf b (.inLoop c :: kk) cs
      obtain ⟨e1, he1, hq⟩ := hq
      cases ex with
      | normal =>
        obtain ⟨s', hs', hj', hlt⟩ := hq
        obtain ⟨e2, a2, w2, hq2, harr2⟩ := ih (m s') (hk ▸ hlt) s' a1 w1 rfl (he1.sub hs') hj' b kk cs
        exact ⟨e2, a2, w2, hq2, .of_steps (Steps.trans harr (.one step_inLoop)) harr2⟩
      | exit id => exact ⟨_, a1, w1, ⟨e1, he1, hq⟩, .pass (x := .inLoop c) rfl (fun _ _ => .inl (by simp)) harr⟩
      | goto l => exact ⟨_, a1, w1, ⟨e1, he1, hq⟩, .pass (x := .inLoop c) rfl (fun _ _ => .inl (by simp)) harr⟩
      | ret => exact ⟨_, a1, w1, ⟨e1, he1, hq⟩, .pass (x := .inLoop c) rfl (fun _ _ => .inl (by simp)) harr⟩
      | panic ch => exact ⟨_, a1, w1, ⟨e1, he1, hq⟩, .pass (x := .inLoop c) rfl (fun _ _ => .inl (by simp)) harr⟩
      | outgrown => exact ⟨_, a1, w1, ⟨e1, he1, hq⟩, .pass (x := .inLoop c) rfl (fun _ _ => .inl (by simp)) harr⟩
  intro b kk cs
  obtain ⟨ex, a', w', hq, harr⟩ := key _ s a w rfl (ha.sub h0) hj b kk cs
  exact ⟨ex, a', w', hq, .of_steps (.one step_loop) harr⟩

theorem T.region {id : Nat} {l : List Oper} (h : TL P n l.toArray l e w Q) : T P n (.region id l.toArray false) e w Q :=
  fun a ha => wp_region_lit (h a ha)
theorem TL.nil {ops : Array Oper} (h : Q .normal e w) : TL P n ops [] e w Q := fun _ ha => wpList_nil ⟨e, ha, h⟩
theorem thenQ_normal {y : Code} (h : T P n y e w Q) : thenQ P n y Q .normal e w := h
theorem thenQ_exit {y : Code} {i : Nat} (h : Q (.exit i) e w) : thenQ P n y Q (.exit i) e w := h
theorem thenQ_ret {y : Code} (h : Q .ret e w) : thenQ P n y Q .ret e w := h
theorem thenQ_panic {y : Code} {ch : List PanicEntry} (h : Q (.panic ch) e w) : thenQ P n y Q (.panic ch) e w := h
theorem loopQ_normal {S : Type} {E : S → Env} {J : S → World → Prop} {m : S → Nat} {s : S} (s' : S) (h : Sub (E s') e) (hj : J s' w) (hm : m s' < m s) : loopQ E J m s Q .normal e w := ⟨s', h, hj, hm⟩
theorem loopQ_exit {S : Type} {E : S → Env} {J : S → World → Prop} {m : S → Nat} {s : S} {i : Nat} (h : Q (.exit i) e w) : loopQ E J m s Q (.exit i) e w := h
theorem loopQ_ret {S : Type} {E : S → Env} {J : S → World → Prop} {m : S → Nat} {s : S} (h : Q .ret e w) : loopQ E J m s Q .ret e w := h
theorem loopQ_panic {S : Type} {E : S → Env} {J : S → World → Prop} {m : S → Nat} {s : S} {ch : List PanicEntry} (h : Q (.panic ch) e w) : loopQ E J m s Q (.panic ch) e w := h
theorem blockQ_hit {i : Nat} (h : Q .normal e w) : blockQ i Q (.exit i) e w := by
  have : Nat.beq i i = true := Nat.beq_refl i
  simp only [blockQ, this]; exact h
theorem blockQ_miss {i j : Nat} (hij : Nat.beq i j = false) (h : Q (.exit i) e w) : blockQ j Q (.exit i) e w := by
  simp only [blockQ, hij]; exact h
theorem blockQ_normal {j : Nat} (h : Q .normal e w) : blockQ j Q .normal e w := h
theorem blockQ_ret {j : Nat} (h : Q .ret e w) : blockQ j Q .ret e w := h
theorem blockQ_panic {j : Nat} {ch : List PanicEntry} (h : Q (.panic ch) e w) : blockQ j Q (.panic ch) e w := h

/-- The operations that only compute: what they give, from what is known. -/
def intOp (op : BinOp) (k : IntKind) (a b : Int) : Option Value :=
  match op with
  | .add => some (.int k (k.wrap (a + b)))
  | .sub => some (.int k (k.wrap (a - b)))
  | .mul => some (.int k (k.wrap (a * b)))
  | .eql => some (.bool (a == b))
  | .neq => some (.bool (a != b))
  | .lss => some (.bool (decide (a < b)))
  | .leq => some (.bool (decide (a ≤ b)))
  | .gtr => some (.bool (decide (a > b)))
  | .geq => some (.bool (decide (a ≥ b)))
  | .and => some (.int k (k.wrap (BitVec.ofInt k.bits a &&& BitVec.ofInt k.bits b).toNat))
  | .or => some (.int k (k.wrap (BitVec.ofInt k.bits a ||| BitVec.ofInt k.bits b).toNat))
  | .xor => some (.int k (k.wrap (BitVec.ofInt k.bits a ^^^ BitVec.ofInt k.bits b).toNat))
  | _ => none

def kindEq : IntKind → IntKind → Bool
  | .i8, .i8 | .i16, .i16 | .i32, .i32 | .i64, .i64 | .u8, .u8 | .u16, .u16 | .u32, .u32 | .u64, .u64 => true
  | _, _ => false
theorem kindEq_eq {a b : IntKind} (h : kindEq a b = true) : a = b := by cases a <;> cases b <;> first | rfl | cases h

def pureOp (f : Operand → Option Value) : Op → Option Value
  | .move x => f x
  | .assign x => f x
  | .pick c x y => match f c with
    | some (.bool true) => f x
    | some (.bool false) => f y
    | _ => none
  | .unOp .not _ x => match f x with
    | some (.bool b) => some (.bool (!b))
    | _ => none
  | .unOp .neg _ x => match f x with
    | some (.int k a) => some (.int k (k.wrap (0 - a)))
    | _ => none
  | .binOp op _ x y _ => match f x, f y with
    | some (.int k a), some (.int k' b) => bif kindEq k k' then intOp op k a b else none
    | _, _ => none
  | .extract x i => match f x with
    | some (.tuple vs) => vs.toList[i]?
    | _ => none
  | _ => none

theorem eqGuard_int (op : BinOp) (t : TypeId) (x y : Operand) (k k' : IntKind) (a b : Int) : eqGuard op t x y (.int k a) (.int k' b) = Pure.pure () := by
  cases op <;> rfl

theorem binOp_int {op : BinOp} {t : TypeId} {k : IntKind} {a b : Int} {v : Value} (h : intOp op k a b = some v) : binOp op t (.int k a) (.int k b) = Pure.pure v := by
  unfold intOp at h
  split at h <;> first
    | (cases h; simp [binOp, Op.intArith, Op.intCmp, Op.intBits]; done)
    | (cases h; simp [binOp, Op.intArith, Op.intCmp, Op.intBits]; rfl)
    | cases h

theorem pureOp_run {a : Act} (hf : Fits n e a) {o : Oper} {v : Value} (h : pureOp (val e) o.op = some v) (w : World) : (execOp a.eval o).run P w = .ok (.value v) w := by
  unfold pureOp at h
  split at h
  · rename_i x hx; simp [execOp, hx, hf.eval h]
  · rename_i x hx; simp [execOp, hx, hf.eval h]
  · rename_i c x y hx
    split at h
    · rename_i hc; simp [execOp, hx, hf.eval hc, asBool, hf.eval h]
    · rename_i hc; simp [execOp, hx, hf.eval hc, asBool, hf.eval h]
    · cases h
  · rename_i x hx
    split at h
    · rename_i b hb; cases h; simp [execOp, hx, hf.eval hb, Op.unary]
    · cases h
  · rename_i x hx
    split at h
    · rename_i k b hb; cases h; simp [execOp, hx, hf.eval hb, Op.unary, Op.intArith]
    · cases h
  · rename_i op t x y t' hx
    split at h
    · rename_i k p k' q h1 h2
      cases hk : kindEq k k' with
      | true =>
        rw [hk] at h
        have hkk := kindEq_eq hk
        subst hkk
        simp [execOp, hx, hf.eval h1, hf.eval h2, eqGuard_int, binOp_int h]
      | false => rw [hk] at h; cases h
    · cases h
  · rename_i x i hx
    split at h
    · rename_i vs hv
      simp only [Array.getElem?_toList] at h
      simp [execOp, hx, hf.eval hv, Instr.extract, h]
    · cases h
  · cases h

theorem TL.pure {ops : Array Oper} {rest : List Oper} {d : Nat} {op : Op} {ty : TypeId} {pos : String} {aft : Array Edge} {v : Value}
    (h : pureOp (val e) op = some v) (hd : Nat.blt d n = true) (k : TL P n ops rest ((d, v) :: e) w Q) :
    TL P n ops (⟨some d, op, ty, pos, aft, none⟩ :: rest) e w Q := fun a ha =>
  wpList_plain rfl fun K hK => by
    unfold Oper.wp
    rw [pureOp_run (o := ⟨some d, op, ty, pos, aft, none⟩) ha h w]
    exact hK _ _ (k _ (ha.put hd v))

/-- Whatever runs to a value: the way into every other rule. -/
theorem TL.run {ops : Array Oper} {rest : List Oper} {d : Nat} {op : Op} {ty : TypeId} {pos : String} {aft : Array Edge} {v : Value} {w' : World}
    (h : ∀ a, Fits n e a → (execOp a.eval ⟨some d, op, ty, pos, aft, none⟩).run P w = .ok (.value v) w') (hd : Nat.blt d n = true) (k : TL P n ops rest ((d, v) :: e) w' Q) :
    TL P n ops (⟨some d, op, ty, pos, aft, none⟩ :: rest) e w Q := fun a ha =>
  wpList_plain rfl fun K hK => by
    unfold Oper.wp
    rw [h a ha]
    exact hK _ _ (k _ (ha.put hd v))
theorem TL.run_skip {ops : Array Oper} {rest : List Oper} {op : Op} {ty : TypeId} {pos : String} {aft : Array Edge} {w' : World}
    (h : ∀ a, Fits n e a → (execOp a.eval ⟨none, op, ty, pos, aft, none⟩).run P w = .ok .skip w') (k : TL P n ops rest e w' Q) :
    TL P n ops (⟨none, op, ty, pos, aft, none⟩ :: rest) e w Q := fun a ha =>
  wpList_plain rfl fun K hK => by
    unfold Oper.wp
    rw [h a ha]
    exact hK _ _ (k _ ha)

/-- Guards: '&&' and '||'. -/
theorem TL.guard {ops : Array Oper} {rest : List Oper} {d : Option Nat} {op : Op} {ty : TypeId} {pos : String} {aft : Array Edge} {j s : Nat} {want b : Bool}
    (hj : (ops[j]?).bind (·.dst) = some s) (hb : find e s = some (.bool b)) (hd : Nat.blt (d.getD 0) n = true)
    (ht : b = want → TL P n ops (⟨d, op, ty, pos, aft, none⟩ :: rest) ((s, .bool want) :: e) w Q)
    (hf : b = (!want) → TL P n ops rest ((d.getD n, undef) :: (s, .bool (!want)) :: e) w Q) :
    TL P n ops (⟨d, op, ty, pos, aft, some (j, want)⟩ :: rest) e w Q := by
  intro a ha
  have hs : s < a.tmps.size := by
    rcases Nat.lt_or_ge s a.tmps.size with h | h
    · exact h
    · have h1 := ha.get s _ hb
      simp [Array.getElem?_eq_none h, undef] at h1
  have hy : yielded ops a.tmps j = some b := by
    have h1 := ha.get s _ hb
    have h2 : a.tmps[s]? = some (.bool b) := by
      simp [hs] at h1
      simp [hs, h1]
    simp [yielded, hj, h2]
  by_cases hw : b = want
  · have h1 := ht hw a (ha.same hb (by rw [hw]))
    unfold wpList at h1 ⊢
    simp only [Region.wanted, hy, hw, beq_self_eq_true, if_true] at h1 ⊢
    exact h1
  · have hn : b = (!want) := by revert hw; cases b <;> cases want <;> simp
    unfold wpList
    have : (some b == some want) = false := by revert hw; cases b <;> cases want <;> simp
    simp only [Region.wanted, hy, this, Bool.false_eq_true, if_false]
    have hs' := ha.same hb (show Value.bool b = Value.bool (!want) by rw [hn])
    cases d with
    | none =>
      refine hf hn _ ⟨hs'.defers, hs'.size, fun t v hv => ?_⟩
      rw [find_cons] at hv
      by_cases htn : n = t
      · subst htn
        simp only [Option.getD_none, if_true, Option.some.injEq] at hv
        subst hv
        simp [Act.put, ha.size]
      · simp only [Option.getD_none, if_neg htn] at hv
        exact hs'.get t v hv
    | some d => exact hf hn _ (hs'.put hd undef)
theorem TL.guard_run {ops : Array Oper} {rest : List Oper} {d : Option Nat} {op : Op} {ty : TypeId} {pos : String} {aft : Array Edge} {j s : Nat} {want : Bool}
    (hj : (ops[j]?).bind (·.dst) = some s) (hb : find e s = some (.bool want)) (hd : Nat.blt (d.getD 0) n = true)
    (ht : TL P n ops (⟨d, op, ty, pos, aft, none⟩ :: rest) e w Q) :
    TL P n ops (⟨d, op, ty, pos, aft, some (j, want)⟩ :: rest) e w Q :=
  TL.guard hj hb hd (fun _ => fun a ha => ht a ⟨ha.defers, ha.size, fun t v hv => ha.get t v (by
      rw [find_cons]
      by_cases h : s = t
      · subst h; rw [hb] at hv; simpa using hv
      · rw [if_neg h]; exact hv)⟩) (fun h => by cases want <;> cases h)
theorem TL.guard_skip {ops : Array Oper} {rest : List Oper} {d : Nat} {op : Op} {ty : TypeId} {pos : String} {aft : Array Edge} {j s : Nat} {want : Bool}
    (hj : (ops[j]?).bind (·.dst) = some s) (hb : find e s = some (.bool (!want))) (hd : Nat.blt d n = true)
    (hf : TL P n ops rest ((d, undef) :: e) w Q) :
    TL P n ops (⟨some d, op, ty, pos, aft, some (j, want)⟩ :: rest) e w Q :=
  TL.guard hj hb hd (fun h => by cases want <;> cases h) (fun _ => fun a ha => hf a ⟨ha.defers, ha.size, fun t v hv => ha.get t v (by
      rw [find_cons] at hv ⊢
      by_cases h : d = t
      · subst h; simpa using hv
      · rw [if_neg h] at hv
        simp only [Option.getD_some, if_neg h]
        rw [find_cons]
        by_cases h2 : s = t
        · subst h2; rw [hb] at hv; simpa using hv
        · rw [if_neg h2]; exact hv)⟩)

theorem TL.guard_yes {ops : Array Oper} {rest : List Oper} {d : Option Nat} {op : Op} {ty : TypeId} {pos : String} {aft : Array Edge} {j s : Nat} {want b : Bool}
    (hj : (ops[j]?).bind (·.dst) = some s) (hb : find e s = some (.bool b)) (hw : b = want) (hd : Nat.blt (d.getD 0) n = true)
    (ht : TL P n ops (⟨d, op, ty, pos, aft, none⟩ :: rest) ((s, .bool want) :: e) w Q) :
    TL P n ops (⟨d, op, ty, pos, aft, some (j, want)⟩ :: rest) e w Q :=
  TL.guard hj hb hd (fun _ => ht) (fun h => by rw [hw] at h; cases want <;> cases h)
theorem TL.guard_no {ops : Array Oper} {rest : List Oper} {d : Nat} {op : Op} {ty : TypeId} {pos : String} {aft : Array Edge} {j s : Nat} {want b : Bool}
    (hj : (ops[j]?).bind (·.dst) = some s) (hb : find e s = some (.bool b)) (hw : b = (!want)) (hd : Nat.blt d n = true)
    (hf : TL P n ops rest ((d, undef) :: (s, .bool (!want)) :: e) w Q) :
    TL P n ops (⟨some d, op, ty, pos, aft, some (j, want)⟩ :: rest) e w Q :=
  TL.guard hj hb hd (fun h => by rw [hw] at h; cases want <;> cases h) (fun _ => hf)

/-- What a function hands back: read off its result slots. -/
def resE (P : Program) (w : World) (e : Env) : ResultVar → Value → Prop
  | .tmp t, v => find e t = some v
  | .cell t ty, v => ∃ p, find e t = some (.pointer (some p)) ∧ (loadVar ty p).run P w = .ok v w
def resAll (P : Program) (w : World) (e : Env) : List ResultVar → List Value → Prop
  | [], vs => vs = []
  | r :: rs, vs => ∃ v vs', vs = v :: vs' ∧ resE P w e r v ∧ resAll P w e rs vs'
def packed : List Value → Value
  | [v] => v
  | vs => .tuple vs.toArray
def retQ (P : Program) (rs : List ResultVar) (R : Ending → World → Prop) : Post := fun x e w =>
  match x with
  | .normal | .ret => ∃ vs, resAll P w e rs vs ∧ R (.returned (packed vs)) w
  | .panic ch => R (.panicked ch) w
  | .outgrown => R .outgrown w
  | _ => False

theorem resAll_run {g : ResultVar → Sem Value} (hg : ∀ r v, resE P w e r v → (g r).run P w = .ok v w) : ∀ (rs : List ResultVar) (vs : List Value) (acc : Array Value), resAll P w e rs vs →
    (rs.foldlM (fun bs r => bs.push <$> g r) acc).run P w = .ok (acc ++ vs.toArray) w := by
  intro rs
  induction rs with
  | nil => intro vs acc h; simp only [resAll] at h; subst h; simp
  | cons r rs ih =>
    intro vs acc h
    obtain ⟨v, vs', rfl, hr, hrest⟩ := h
    simp only [List.foldlM_cons, Sem.run_bind, Sem.run_map, hg r v hr, Result.andThen_ok]
    rw [ih vs' (acc.push v) hrest]
    simp

theorem results_run {fn : Func} {a : Act} (hf : Fits n e a) {rs : List ResultVar} (hrs : fn.results = rs.toArray) {vs : List Value} (h : resAll P w e rs vs) :
    (results fn a.tmps).run P w = .ok (packed vs) w := by
  unfold results
  rw [hrs]
  simp only [Array.mapM_eq_foldlM, List.foldlM_toArray', bind_pure_comp, Sem.run_map, List.size_toArray]
  rw [resAll_run (P := P) (w := w) ?_ rs vs #[] h]
  · simp only [Result.andThen_ok, Array.empty_append]
    match vs with
    | [] => rfl
    | [v] => rfl
    | v :: u :: r => rfl
  · intro r v hr
    cases r with
    | tmp t => have := hf.get t v hr; simp only [this]; rfl
    | cell b ty =>
      obtain ⟨p, h1, h2⟩ := hr
      have := hf.get b _ h1
      simp only [this, asAddr, Sem.run_bind, Sem.run_pure, Result.andThen_ok, h2]

def argsFrom : Nat → List Value → Env
  | _, [] => []
  | k, v :: vs => (k, v) :: argsFrom (k + 1) vs

theorem find_argsFrom : ∀ (vs : List Value) (k t : Nat) (v : Value), find (argsFrom k vs) t = some v → k ≤ t ∧ vs[t - k]? = some v := by
  intro vs
  induction vs with
  | nil => intro k t v h; cases h
  | cons x xs ih =>
    intro k t v h
    simp only [argsFrom] at h
    rw [find_cons] at h
    by_cases hk : k = t
    · subst hk; simp only [if_true, Option.some.injEq] at h; subst h; exact ⟨Nat.le_refl _, by simp⟩
    · rw [if_neg hk] at h
      obtain ⟨h1, h2⟩ := ih (k + 1) t v h
      refine ⟨by omega, ?_⟩
      rw [show t - k = (t - (k + 1)) + 1 by omega]
      simpa using h2

theorem calls {f : FuncId} {fn : Func} {c : Code} {args : List Value} {rs : List ResultVar} {R : Ending → World → Prop} {n : Nat}
    (hf : P.funcs[f]? = some fn) (hb : fn.body = some c) (hn : fn.ntmps = n) (hrs : fn.results = rs.toArray) (ha : Nat.ble args.length n = true)
    (h : T P n c (argsFrom 0 args) w (retQ P rs R)) : Calls P f args.toArray w R := by
  have hle : args.length ≤ n := Nat.le_of_ble_eq_true ha
  refine calls_of_wp hf hb (wp_mono (h _ ⟨rfl, ?_, ?_⟩) ?_)
  · simp [hn]; omega
  · intro t v hv
    obtain ⟨_, h2⟩ := find_argsFrom args 0 t v hv
    have h3 : t < args.length := by
      rcases Nat.lt_or_ge t args.length with h | h
      · exact h
      · simp [List.getElem?_eq_none h] at h2
    simp only [Nat.sub_zero] at h2
    simp only [Array.getD_eq_getD_getElem?]
    rw [Array.getElem?_append_left (by simpa using h3)]
    simp [h2]
  · intro x a w ⟨e, he, hq⟩
    cases x with
    | normal => obtain ⟨vs, h1, h2⟩ := hq; exact ⟨he.defers, _, results_run he hrs h1, h2⟩
    | ret => obtain ⟨vs, h1, h2⟩ := hq; exact ⟨he.defers, _, results_run he hrs h1, h2⟩
    | panic ch => exact ⟨he.defers, hq⟩
    | outgrown => exact hq
    | exit i => exact hq
    | goto l => exact hq
theorem retQ_ret {rs : List ResultVar} {R : Ending → World → Prop} {vs : List Value} {v : Value} (h : resAll P w e rs vs) (hp : packed vs = v) (hR : R (.returned v) w) : retQ P rs R .ret e w := ⟨vs, h, by rw [hp]; exact hR⟩
theorem retQ_normal {rs : List ResultVar} {R : Ending → World → Prop} {vs : List Value} {v : Value} (h : resAll P w e rs vs) (hp : packed vs = v) (hR : R (.returned v) w) : retQ P rs R .normal e w := ⟨vs, h, by rw [hp]; exact hR⟩
/-- One result in a slot; two; three. -/
theorem ret1 {s : Nat} {v : Value} {R : Ending → World → Prop} (h : find e s = some v) (hR : R (.returned v) w) : retQ P [.tmp s] R .ret e w := retQ_ret (vs := [v]) ⟨v, [], rfl, h, rfl⟩ rfl hR
theorem ret2 {s t : Nat} {u v : Value} {R : Ending → World → Prop} (h : find e s = some u) (h2 : find e t = some v) (hR : R (.returned (.tuple #[u, v])) w) : retQ P [.tmp s, .tmp t] R .ret e w :=
  retQ_ret (vs := [u, v]) ⟨u, [v], rfl, h, v, [], rfl, h2, rfl⟩ rfl hR
theorem TL.mk {ops : Array Oper} {l : List Oper} (h : ∀ a, Fits n e a → wpList P ops (lift n Q) l a w) : TL P n ops l e w Q := h
theorem TL.out {ops : Array Oper} {l : List Oper} (h : TL P n ops l e w Q) {a : Act} (ha : Fits n e a) : wpList P ops (lift n Q) l a w := h a ha
theorem T.mk {c : Code} (h : ∀ a, Fits n e a → c.wp P (lift n Q) a w) : T P n c e w Q := h
theorem T.out {c : Code} (h : T P n c e w Q) {a : Act} (ha : Fits n e a) : c.wp P (lift n Q) a w := h a ha
/-- One result in memory; one in memory and one in a slot. -/
theorem retC {s t : Nat} {p : Addr} {v : Value} {R : Ending → World → Prop} (h : find e s = some (.pointer (some p))) (hl : (loadVar t p).run P w = .ok v w) (hR : R (.returned v) w) : retQ P [.cell s t] R .ret e w :=
  retQ_ret (vs := [v]) ⟨v, [], rfl, ⟨p, h, hl⟩, rfl⟩ rfl hR
theorem retCT {s t u : Nat} {p : Addr} {v x : Value} {R : Ending → World → Prop} (h : find e s = some (.pointer (some p))) (hl : (loadVar t p).run P w = .ok v w) (h2 : find e u = some x) (hR : R (.returned (.tuple #[v, x])) w) : retQ P [.cell s t, .tmp u] R .ret e w :=
  retQ_ret (vs := [v, x]) ⟨v, [x], rfl, ⟨p, h, hl⟩, x, [], rfl, h2, rfl⟩ rfl hR
end rules
attribute [irreducible] T TL thenQ blockQ loopQ retQ
end Go.V
