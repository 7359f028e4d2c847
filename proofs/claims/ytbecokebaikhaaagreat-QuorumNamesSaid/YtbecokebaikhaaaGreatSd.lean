/-
  S, fourth text: what is looked at, tries and ropes: as E has them.
-/
import Derived.Test.YtbecokebaikhaaaGreatSc
import Derived.Test.YtbecokebaikhaaaGreatEd
namespace Go.S
open Go Go.E
set_option linter.unusedVariables false
set_option linter.unusedSimpArgs false

theorem nK_eq {R : Type} (n : Nat) (k : Nat → R) : nK n k = k n := by cases n <;> rfl
theorem iF_eq {R : Type} (b : Bool) (x y : R) : iF b x y = bif b then x else y := by cases b <;> rfl
theorem iF_t {b x : Bool} (h : iF b x false = true) : b = true ∧ x = true := by cases b <;> simp_all [iF]
theorem iF_c {b x y : Bool} (h : iF b x y = true) : (b = true ∧ x = true) ∨ (b = false ∧ y = true) := by cases b <;> simp_all [iF]
theorem vA_t {v : V} {k : A → Bool} (h : vA v k = true) : ∃ a, v = .at a ∧ k a = true := by
  cases v <;> first | exact ⟨_, rfl, h⟩ | cases h
theorem vV_t {v : V} {k : V → Bool} (h : vV v k = true) : v ≠ .undef ∧ k v = true := by
  cases v <;> first | exact ⟨(fun e => by cases e), h⟩ | cases h
theorem vT_t {v : V} {k : List V → Bool} (h : vT v k = true) : ∃ l, v = .tup l ∧ k l = true := by
  cases v <;> first | exact ⟨_, rfl, h⟩ | cases h
theorem vG_t {v : V} {k : Rope → Bool} (h : vG v k = true) : ∃ l, v = .agg l ∧ k l = true := by
  cases v <;> first | exact ⟨_, rfl, h⟩ | cases h
theorem aI_t {a : A} {k : IntKind → Nat → Bool} (h : aI a k = true) : ∃ kd n, a = .int kd n ∧ k kd n = true := by
  cases a <;> first | exact ⟨_, _, rfl, h⟩ | cases h
theorem aB_t {a : A} {x y : Bool} (h : aB a x y = true) : ∃ b, a = .bool b ∧ (bif b then x else y) = true := by
  cases a <;> first | exact ⟨_, rfl, by rw [← iF_eq]; exact h⟩ | cases h
theorem aP_t {a : A} {k : Nat → Nat → Bool} (h : aP a k = true) : ∃ b o, a = .ptr b o ∧ k b o = true := by
  cases a <;> first | exact ⟨_, _, rfl, h⟩ | cases h
theorem aS_t {a : A} {k ku : Nat → Nat → Nat → Nat → Bool} {kn : Bool} {ks : Nat → Nat → Bool} (h : aS a k ku kn ks = true) :
    (∃ b o n c, a = .slice b o n c ∧ k b o n c = true) ∨ (∃ b o n z, a = .slu b o n z ∧ ku b o n z = true) ∨ (a = .nilSlice ∧ kn = true) ∨ (∃ n s, a = .str n s ∧ ks n s = true) := by
  cases a <;> first | exact .inl ⟨_, _, _, _, rfl, h⟩ | exact .inr (.inl ⟨_, _, _, _, rfl, h⟩) | exact .inr (.inr (.inl ⟨rfl, h⟩)) | exact .inr (.inr (.inr ⟨_, _, rfl, h⟩)) | cases h
theorem aF_t {a : A} {k : Fn → List A → List A → Bool} (h : aF a k = true) : ∃ f x y, a = .fn f x y ∧ k f x y = true := by
  cases a <;> first | exact ⟨_, _, _, rfl, h⟩ | cases h
theorem tpR_eq (k : IntKind) : tpR k = tp k := by cases k <;> rfl
theorem aX_t {a : A} {k : Nat → Bool} (h : aX a k = true) : ∃ n, (∀ (k' : Nat → Bool), idxK false a k' = k' n) ∧ k n = true := by
  obtain ⟨kd, n, rfl, h⟩ := aI_t h
  obtain ⟨h1, h2⟩ := iF_t h
  rw [tpR_eq] at h1
  refine ⟨n, fun k' => ?_, h2⟩
  show (bif Nat.ble (Nat.succ n) (tp kd) then k' n else false) = _
  rw [h1]; rfl
theorem bC_t {b : Bk} {k : TypeId → Rope → Bool} (h : bC b k = true) : ∃ t r, b = .cells t r ∧ k t r = true := by
  cases b <;> first | exact ⟨_, _, rfl, h⟩ | cases h
theorem kC_t {kd k : IntKind} {r : Bool} (h : kC kd k r = true) : k = kd ∧ r = true := by
  cases kd <;> cases k <;> first | exact ⟨rfl, h⟩ | cases h
theorem kEq_refl (k : IntKind) : kEq k k = true := by cases k <;> rfl
theorem vR_t {v : V} {k : Rope → Bool} (h : vR v k = true) : ∃ q, ropeV v = some q ∧ (∀ (k' : Rope → Bool), ropeK false v k' = k' q) ∧ k q = true := by
  cases v with
  | «at» a =>
    have e : aO a k = true := h
    cases a with
    | int kd n => cases kd <;> exact ⟨_, rfl, fun _ => rfl, e⟩
    | _ => exact ⟨_, rfl, fun _ => rfl, e⟩
  | agg r => exact ⟨r, rfl, fun _ => rfl, h⟩
  | tup l => cases h
  | undef => cases h
theorem bit_step {R : Type} (a : R) (f g : Nat → R) (m : Nat) : Nat.rec (motive := fun _ => R) a (fun m _ => Nat.rec (motive := fun _ => R) (f (Nat.div m 2)) (fun _ _ => g (Nat.div m 2)) (Nat.mod m 2)) (m + 1) = bif Nat.beq (Nat.mod (m + 1) 2) 1 then f (Nat.div (m + 1) 2) else g (Nat.pred (Nat.div (m + 1) 2)) := by
  show Nat.rec (motive := fun _ => R) (f (Nat.div m 2)) (fun _ _ => g (Nat.div m 2)) (Nat.mod m 2) = _
  rcases Nat.mod_two_eq_zero_or_one m with h | h
  · rw [show Nat.mod m 2 = 0 from h, show Nat.mod (m + 1) 2 = 1 by show (m + 1) % 2 = 1; omega, show Nat.div (m + 1) 2 = Nat.div m 2 by show (m + 1) / 2 = m / 2; omega]
    rfl
  · rw [show Nat.mod m 2 = 1 from h, show Nat.mod (m + 1) 2 = 0 by show (m + 1) % 2 = 0; omega, show Nat.pred (Nat.div (m + 1) 2) = Nat.div m 2 by show (m + 1) / 2 - 1 = m / 2; omega]
    rfl
theorem tG_eq.{u} {α : Type u} {R : Type} (bad : R) (k : α → R) : ∀ (t : Tr α) (n : Nat), tG bad t n k = match t.get n with | some x => k x | none => bad
  | .lf, n => rfl
  | .nd l v r, n => by
    have e : tG bad (.nd l v r) n k = Nat.rec (motive := fun _ => R) (Option.rec (motive := fun _ => R) bad k v) (fun m _ => Nat.rec (motive := fun _ => R) (tG bad l (Nat.div m 2) k) (fun _ _ => tG bad r (Nat.div m 2) k) (Nat.mod m 2)) n := rfl
    rw [e]
    show _ = match (bif Nat.beq n 0 then v else bif Nat.beq (Nat.mod n 2) 1 then l.get (Nat.div n 2) else r.get (Nat.pred (Nat.div n 2))) with | some x => k x | none => bad
    cases n with
    | zero => cases v <;> rfl
    | succ m =>
      rw [show Nat.beq (m + 1) 0 = false from rfl, cond_false]
      refine (bit_step bad (fun x => tG bad l x k) (fun x => tG bad r x k) m).trans ?_
      cases Nat.beq (Nat.mod (m + 1) 2) 1
      · exact tG_eq bad k r _
      · exact tG_eq bad k l _
theorem tP_eq {α : Type} : ∀ (f : Nat) (t : Tr α) (n : Nat) (v : Option α) (k : Tr α → Bool), tP f t n v k = Tr.put false f t n v k
  | 0, t, n, v, k => by cases t <;> rfl
  | f + 1, .lf, n, v, k => by
    have e : tP (f + 1) .lf n v k = Nat.rec (motive := fun _ => Bool) (k (.nd .lf v .lf)) (fun m _ => Nat.rec (motive := fun _ => Bool) (tP f .lf (Nat.div m 2) v fun t => k (.nd t none .lf)) (fun _ _ => tP f .lf (Nat.div m 2) v fun t => k (.nd .lf none t)) (Nat.mod m 2)) n := rfl
    rw [e]
    show _ = bif Nat.beq n 0 then k (.nd .lf v .lf) else bif Nat.beq (Nat.mod n 2) 1 then Tr.put false f .lf (Nat.div n 2) v (fun t => k (.nd t none .lf)) else Tr.put false f .lf (Nat.pred (Nat.div n 2)) v (fun t => k (.nd .lf none t))
    cases n with
    | zero => rfl
    | succ m =>
      rw [show Nat.beq (m + 1) 0 = false from rfl, cond_false]
      refine (bit_step false (fun x => tP f .lf x v fun t => k (.nd t none .lf)) (fun x => tP f .lf x v fun t => k (.nd .lf none t)) m).trans ?_
      cases Nat.beq (Nat.mod (m + 1) 2) 1 <;> exact tP_eq f _ _ _ _
  | f + 1, .nd l u r, n, v, k => by
    have e : tP (f + 1) (.nd l u r) n v k = Nat.rec (motive := fun _ => Bool) (k (.nd l v r)) (fun m _ => Nat.rec (motive := fun _ => Bool) (tP f l (Nat.div m 2) v fun t => k (.nd t u r)) (fun _ _ => tP f r (Nat.div m 2) v fun t => k (.nd l u t)) (Nat.mod m 2)) n := rfl
    rw [e]
    show _ = bif Nat.beq n 0 then k (.nd l v r) else bif Nat.beq (Nat.mod n 2) 1 then Tr.put false f l (Nat.div n 2) v (fun t => k (.nd t u r)) else Tr.put false f r (Nat.pred (Nat.div n 2)) v (fun t => k (.nd l u t))
    cases n with
    | zero => rfl
    | succ m =>
      rw [show Nat.beq (m + 1) 0 = false from rfl, cond_false]
      refine (bit_step false (fun x => tP f l x v fun t => k (.nd t u r)) (fun x => tP f r x v fun t => k (.nd l u t)) m).trans ?_
      cases Nat.beq (Nat.mod (m + 1) 2) 1 <;> exact tP_eq f _ _ _ _

/-! Either never, or at one place. -/
def Par {α : Type} (F : (α → Bool) → Bool) : Prop := (∀ k, F k = false) ∨ ∃ a, ∀ k, F k = k a
theorem Par.t {α : Type} {F : (α → Bool) → Bool} (h : Par F) {k : α → Bool} (hk : F k = true) : ∃ a, (∀ k', F k' = k' a) ∧ k a = true := by
  rcases h with h | ⟨a, h⟩
  · rw [h] at hk; cases hk
  · exact ⟨a, h, (h k).symm.trans hk⟩
theorem Par.bind {α β : Type} {F : (α → Bool) → Bool} {G : α → (β → Bool) → Bool} (h : Par F) (hG : ∀ a, Par (G a)) : Par fun k => F fun a => G a k := by
  rcases h with h | ⟨a, h⟩
  · exact .inl fun k => h _
  · rcases hG a with g | ⟨b, g⟩
    · exact .inl fun k => (h _).trans (g k)
    · exact .inr ⟨b, fun k => (h _).trans (g k)⟩
theorem Par.pure {α : Type} (a : α) : Par fun (k : α → Bool) => k a := .inr ⟨a, fun _ => rfl⟩
theorem Par.bad {α : Type} : Par fun (k : α → Bool) => false := .inl fun _ => rfl
theorem Par.ite {α : Type} {F G : (α → Bool) → Bool} (b : Bool) (hF : Par F) (hG : Par G) : Par fun k => bif b then F k else G k := by cases b <;> assumption
theorem put_par {α : Type} (f : Nat) : ∀ (t : Tr α) (n : Nat) (v : Option α), Par fun k => Tr.put false f t n v k := by
  induction f with
  | zero => intro t n v; cases t <;> exact .inl fun k => rfl
  | succ f ih =>
    intro t n v
    cases t with
    | lf =>
      exact Par.ite (F := fun k => k (Tr.nd Tr.lf v Tr.lf)) (G := fun k => bif Nat.beq (Nat.mod n 2) 1 then Tr.put false f .lf (Nat.div n 2) v (fun t => k (Tr.nd t none .lf)) else Tr.put false f .lf (Nat.pred (Nat.div n 2)) v (fun t => k (Tr.nd .lf none t))) _ (Par.pure _)
        (Par.ite (F := fun k => Tr.put false f .lf (Nat.div n 2) v (fun t => k (Tr.nd t none .lf))) (G := fun k => Tr.put false f .lf (Nat.pred (Nat.div n 2)) v (fun t => k (Tr.nd .lf none t))) _
          ((ih _ _ _).bind (G := fun t k => k (Tr.nd t none .lf)) fun a => Par.pure _) ((ih _ _ _).bind (G := fun t k => k (Tr.nd .lf none t)) fun a => Par.pure _))
    | nd l u r =>
      exact Par.ite (F := fun k => k (Tr.nd l v r)) (G := fun k => bif Nat.beq (Nat.mod n 2) 1 then Tr.put false f l (Nat.div n 2) v (fun t => k (Tr.nd t u r)) else Tr.put false f r (Nat.pred (Nat.div n 2)) v (fun t => k (Tr.nd l u t))) _ (Par.pure _)
        (Par.ite (F := fun k => Tr.put false f l (Nat.div n 2) v (fun t => k (Tr.nd t u r))) (G := fun k => Tr.put false f r (Nat.pred (Nat.div n 2)) v (fun t => k (Tr.nd l u t))) _
          ((ih _ _ _).bind (G := fun t k => k (Tr.nd t u r)) fun a => Par.pure _) ((ih _ _ _).bind (G := fun t k => k (Tr.nd l u t)) fun a => Par.pure _))
theorem hG_t {h : H} {b : Nat} {k : TypeId → Rope → Bool} (H : hG h b k = true) : ∃ t r, (∀ (k' : TypeId → Rope → Bool), cellsK false h b k' = k' t r) ∧ k t r = true := by
  unfold hG at H
  rw [tG_eq] at H
  unfold cellsK
  split at H
  · rename_i x hx
    obtain ⟨t, r, rfl, H⟩ := bC_t H
    exact ⟨t, r, fun k' => by rw [hx], H⟩
  · cases H
theorem hP_t {h : H} {b : Nat} {bk : Bk} {k : H → Bool} (H' : hP h b bk k = true) : ∃ h', (∀ (k' : H → Bool), setK false h b bk k' = k' h') ∧ k h' = true := by
  unfold hP at H'
  rw [tP_eq] at H'
  exact (put_par 64 h b (some bk)).t H'
theorem hD_t {h : H} {b : Nat} {k : H → Bool} (H' : hD h b k = true) : ∃ h', (∀ (k' : H → Bool), delK false h b k' = k' h') ∧ k h' = true := by
  unfold hD at H'
  rw [tP_eq] at H'
  exact (put_par 64 h b none).t H'
theorem hN_t {h : H} {nx : Nat} {bk : Bk} {k : H → Nat → Bool} (H' : hN h nx bk k = true) : ∃ h', (∀ (k' : H → Nat → Bool), newK false true h nx bk k' = k' h' (Nat.succ nx)) ∧ k h' (Nat.succ nx) = true := by
  unfold hN at H'
  rw [tP_eq] at H'
  obtain ⟨h', e, H'⟩ := (put_par 64 h nx (some bk)).t H'
  rw [nK_eq] at H'
  exact ⟨h', fun k' => by unfold newK; rw [e, natK_eq], H'⟩
theorem rG_t : ∀ {r : Rope} {i : Nat} {k : A → Bool}, rG r i k = true → ∃ a, r.get i = some a ∧ k a = true
  | .by n s, i, k, H => by
    have H : iF (Nat.ble (Nat.succ i) n) (iF (Nat.beq n 1) (k (.int .u8 s)) (nK (Nat.mod (Nat.shiftRight s (Nat.mul 8 i)) 256) fun c => k (.int .u8 c))) false = true := H
    obtain ⟨h1, H⟩ := iF_t H
    rw [nK_eq] at H
    show ∃ a, (bif Nat.ble (Nat.succ i) n then (bif Nat.beq n 1 then some (A.int .u8 s) else some (.int .u8 (lo8 (dn8 s i) 1))) else none) = some a ∧ _
    rw [h1, cond_true]
    rcases iF_c H with ⟨h2, H⟩ | ⟨h2, H⟩
    · rw [h2]; exact ⟨_, rfl, H⟩
    · rw [h2]; exact ⟨_, rfl, H⟩
  | .rp n a, i, k, H => by
    have H : iF (Nat.ble (Nat.succ i) n) (k a) false = true := H
    obtain ⟨h1, H⟩ := iF_t H
    show ∃ a', (bif Nat.ble (Nat.succ i) n then some a else none) = some a' ∧ _
    rw [h1]; exact ⟨_, rfl, H⟩
  | .nd n l r, i, k, H => by
    have H : iF (Nat.ble (Nat.succ i) n) (rG l i k) (rG r (Nat.sub i n) k) = true := H
    show ∃ a', (bif Nat.ble (Nat.succ i) n then l.get i else r.get (Nat.sub i n)) = some a' ∧ _
    rcases iF_c H with ⟨h2, H⟩ | ⟨h2, H⟩
    · rw [h2]; exact rG_t H
    · rw [h2]; exact rG_t H
theorem two_t {a b : Bool} : two a b = (bif a then b else false) := rfl
theorem rJ_eq (n : Nat) (x y : Rope) (k : Rope → Bool) : rJ n x y k = jn true n x y k := by
  unfold rJ jn
  rw [iF_eq]
  congr 1
  cases x with
  | «by» a s =>
    cases y with
    | «by» b t =>
      show iF _ (nK _ _) _ = _
      rw [iF_eq]; simp only [nK_eq, natK_eq]; rfl
    | _ => rfl
  | _ => rfl
theorem jn_par (n : Nat) (x y : Rope) : Par fun k => jn true n x y k := by
  unfold jn
  refine Par.ite (F := fun k => k y) _ (Par.pure _) ?_
  cases x with
  | «by» a s =>
    cases y with
    | «by» b t => exact Par.ite (F := fun k => natK true (Nat.add a b) fun c => natK true (Nat.add s (sh8 t a)) fun u => k (Rope.by c u)) (G := fun k => k (Rope.nd n (.by a s) (.by b t))) _ (.inr ⟨Rope.by (Nat.add a b) (Nat.add s (sh8 t a)), fun k => by simp only [natK_eq]⟩) (Par.pure _)
    | _ => exact Par.pure _
  | _ => exact Par.pure _
theorem rS_eq : ∀ (r : Rope) (o c : Nat) (k : Rope → Bool), rS r o c k = r.sub false true o c k
  | .by n s, o, c, k => by
    have e : rS (.by n s) o c k = iF (Nat.ble (Nat.add o c) n) (iF (Nat.beq c n) (k (.by n s)) (nK c fun c => nK (Nat.mod (Nat.shiftRight s (Nat.mul 8 o)) (Nat.pow 2 (Nat.mul 8 c))) fun u => k (.by c u))) false := rfl
    rw [e]; simp only [iF_eq, nK_eq, Rope.sub, natK_eq]; rfl
  | .rp n a, o, c, k => by
    have e : rS (.rp n a) o c k = iF (Nat.ble (Nat.add o c) n) (nK c fun c => k (.rp c a)) false := rfl
    rw [e]; simp only [iF_eq, nK_eq, Rope.sub, natK_eq]
  | .nd n l r, o, c, k => by
    have e : rS (.nd n l r) o c k = iF (Nat.ble (Nat.add o c) n) (rS l o c k) (iF (Nat.ble n o) (rS r (Nat.sub o n) c k)
      (rS l o (Nat.sub n o) fun x => rS r 0 (Nat.sub (Nat.add o c) n) fun y => nK (Nat.sub n o) fun p => rJ p x y k)) := rfl
    rw [e]; simp only [iF_eq, nK_eq, Rope.sub, natK_eq, rJ_eq, rS_eq]
theorem sub_par : ∀ (r : Rope) (o c : Nat), Par fun k => r.sub false true o c k
  | .by n s, o, c => by
    simp only [Rope.sub, natK_eq]
    exact Par.ite (F := fun k => bif Nat.beq c n then k (Rope.by n s) else k (Rope.by c (lo8 (dn8 s o) c))) _ (Par.ite (F := fun k => k (Rope.by n s)) (G := fun k => k (Rope.by c (lo8 (dn8 s o) c))) _ (Par.pure _) (Par.pure _)) Par.bad
  | .rp n a, o, c => by
    simp only [Rope.sub, natK_eq]
    exact Par.ite (F := fun k => k (Rope.rp c a)) _ (Par.pure _) Par.bad
  | .nd n l r, o, c => by
    simp only [Rope.sub, natK_eq]
    exact Par.ite (F := fun k => l.sub false true o c k) (G := fun k => bif Nat.ble n o then r.sub false true (Nat.sub o n) c k else l.sub false true o (Nat.sub n o) fun x => r.sub false true 0 (Nat.sub (Nat.add o c) n) fun y => jn true (Nat.sub n o) x y k) _ (sub_par l _ _)
      (Par.ite (F := fun k => r.sub false true (Nat.sub o n) c k) (G := fun k => l.sub false true o (Nat.sub n o) fun x => r.sub false true 0 (Nat.sub (Nat.add o c) n) fun y => jn true (Nat.sub n o) x y k) _ (sub_par r _ _)
        ((sub_par l _ _).bind (G := fun x k => r.sub false true 0 (Nat.sub (Nat.add o c) n) fun y => jn true (Nat.sub n o) x y k) fun x => (sub_par r _ _).bind (G := fun y k => jn true (Nat.sub n o) x y k) fun y => jn_par _ _ _))
theorem rS_t {r : Rope} {o c : Nat} {k : Rope → Bool} (H : rS r o c k = true) : ∃ q, (∀ k' : Rope → Bool, r.sub false true o c k' = k' q) ∧ k q = true := by
  rw [rS_eq] at H; exact (sub_par r o c).t H
theorem rU_eq : ∀ (r : Rope) (o c : Nat) (x : Rope) (k : Rope → Bool), rU r o c x k = r.upd false true o c x k
  | .by n s, o, c, x, k => by
    have e : rU (.by n s) o c x k = iF (Nat.ble (Nat.add o c) n) (iF (Nat.beq c n) (k x)
      (nK o fun o => nK c fun c => nK (Nat.mod s (Nat.pow 2 (Nat.mul 8 o))) fun u => nK (Nat.sub n (Nat.add o c)) fun p => nK (Nat.shiftRight s (Nat.mul 8 (Nat.add o c))) fun v =>
        iF (Nat.beq p 0) (rJ o (.by o u) x k) (rJ c x (.by p v) fun y => rJ o (.by o u) y k))) false := rfl
    rw [e]; simp only [iF_eq, nK_eq, Rope.upd, natK_eq, rJ_eq]; rfl
  | .rp n a, o, c, x, k => by
    have e : rU (.rp n a) o c x k = iF (Nat.ble (Nat.add o c) n) (iF (Nat.beq c n) (k x)
      (nK o fun o => nK c fun c => nK (Nat.sub n (Nat.add o c)) fun p =>
        iF (Nat.beq p 0) (rJ o (.rp o a) x k) (rJ c x (.rp p a) fun y => rJ o (.rp o a) y k))) false := rfl
    rw [e]; simp only [iF_eq, nK_eq, Rope.upd, natK_eq, rJ_eq]
  | .nd n l r, o, c, x, k => by
    have e : rU (.nd n l r) o c x k = iF (Nat.ble (Nat.add o c) n) (rU l o c x fun l' => rJ n l' r k) (iF (Nat.ble n o) (rU r (Nat.sub o n) c x fun r' => rJ n l r' k)
      (rS x 0 (Nat.sub n o) fun x1 => rS x (Nat.sub n o) (Nat.sub (Nat.add o c) n) fun x2 => rU l o (Nat.sub n o) x1 fun l' => rU r 0 (Nat.sub (Nat.add o c) n) x2 fun r' => rJ n l' r' k)) := rfl
    rw [e]; simp only [iF_eq, nK_eq, Rope.upd, natK_eq, rJ_eq, rS_eq, rU_eq]
theorem upd_par : ∀ (r : Rope) (o c : Nat) (x : Rope), Par fun k => r.upd false true o c x k
  | .by n s, o, c, x => by
    simp only [Rope.upd, natK_eq]
    exact Par.ite (F := fun k => bif Nat.beq c n then k x else bif Nat.beq (Nat.sub n (Nat.add o c)) 0 then jn true o (.by o (lo8 s o)) x k else jn true c x (.by (Nat.sub n (Nat.add o c)) (dn8 s (Nat.add o c))) fun y => jn true o (.by o (lo8 s o)) y k) _
      (Par.ite (F := fun k => k x) (G := fun k => bif Nat.beq (Nat.sub n (Nat.add o c)) 0 then jn true o (.by o (lo8 s o)) x k else jn true c x (.by (Nat.sub n (Nat.add o c)) (dn8 s (Nat.add o c))) fun y => jn true o (.by o (lo8 s o)) y k) _ (Par.pure _)
        (Par.ite (F := fun k => jn true o (.by o (lo8 s o)) x k) _ (jn_par _ _ _) ((jn_par _ _ _).bind (G := fun y k => jn true o (.by o (lo8 s o)) y k) fun y => jn_par _ _ _))) Par.bad
  | .rp n a, o, c, x => by
    simp only [Rope.upd, natK_eq]
    exact Par.ite (F := fun k => bif Nat.beq c n then k x else bif Nat.beq (Nat.sub n (Nat.add o c)) 0 then jn true o (.rp o a) x k else jn true c x (.rp (Nat.sub n (Nat.add o c)) a) fun y => jn true o (.rp o a) y k) _
      (Par.ite (F := fun k => k x) (G := fun k => bif Nat.beq (Nat.sub n (Nat.add o c)) 0 then jn true o (.rp o a) x k else jn true c x (.rp (Nat.sub n (Nat.add o c)) a) fun y => jn true o (.rp o a) y k) _ (Par.pure _)
        (Par.ite (F := fun k => jn true o (.rp o a) x k) _ (jn_par _ _ _) ((jn_par _ _ _).bind (G := fun y k => jn true o (.rp o a) y k) fun y => jn_par _ _ _))) Par.bad
  | .nd n l r, o, c, x => by
    simp only [Rope.upd]
    exact Par.ite (F := fun k => l.upd false true o c x fun l' => jn true n l' r k) _ ((upd_par l _ _ _).bind (G := fun l' k => jn true n l' r k) fun _ => jn_par _ _ _)
      (Par.ite (F := fun k => r.upd false true (Nat.sub o n) c x fun r' => jn true n l r' k) _ ((upd_par r _ _ _).bind (G := fun r' k => jn true n l r' k) fun _ => jn_par _ _ _)
        ((sub_par x _ _).bind (G := fun x1 k => x.sub false true (Nat.sub n o) (Nat.sub (Nat.add o c) n) fun x2 => l.upd false true o (Nat.sub n o) x1 fun l' => r.upd false true 0 (Nat.sub (Nat.add o c) n) x2 fun r' => jn true n l' r' k) fun x1 =>
          (sub_par x _ _).bind (G := fun x2 k => l.upd false true o (Nat.sub n o) x1 fun l' => r.upd false true 0 (Nat.sub (Nat.add o c) n) x2 fun r' => jn true n l' r' k) fun x2 =>
          (upd_par l _ _ _).bind (G := fun l' k => r.upd false true 0 (Nat.sub (Nat.add o c) n) x2 fun r' => jn true n l' r' k) fun l' =>
          (upd_par r _ _ _).bind (G := fun r' k => jn true n l' r' k) fun r' => jn_par _ _ _))
theorem rU_t {r : Rope} {o c : Nat} {x : Rope} {k : Rope → Bool} (H : rU r o c x k = true) : ∃ q, (∀ k' : Rope → Bool, r.upd false true o c x k' = k' q) ∧ k q = true := by
  rw [rU_eq] at H; exact (upd_par r o c x).t H
theorem rJ_t {n : Nat} {x y : Rope} {k : Rope → Bool} (H : rJ n x y k = true) : ∃ q, (∀ k' : Rope → Bool, jn true n x y k' = k' q) ∧ k q = true := by
  rw [rJ_eq] at H; exact (jn_par n x y).t H
theorem rL_eq : ∀ r : Rope, rL r = r.len
  | .by _ _ => rfl
  | .rp _ _ => rfl
  | .nd n l r => by
    have e : rL (.nd n l r) = Nat.add n (rL r) := rfl
    rw [e, rL_eq r]; rfl
end Go.S
