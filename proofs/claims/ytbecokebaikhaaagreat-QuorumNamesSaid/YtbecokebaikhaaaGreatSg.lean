/-
  S, seventh text: the other operations.
-/
import Derived.Test.YtbecokebaikhaaaGreatSf
namespace Go.S
open Go Go.E
set_option linter.unusedVariables false
set_option linter.unusedSimpArgs false
variable {Γ : Ctx}

def Par2 {α β : Type} (F : (α → β → Bool) → Bool) : Prop := (∀ k, F k = false) ∨ ∃ a b, ∀ k, F k = k a b
theorem Par2.bind {α β γ : Type} {F : (α → β → Bool) → Bool} {G : α → β → (γ → Bool) → Bool} (h : Par2 F) (hG : ∀ a b, Par (G a b)) : Par fun k => F fun a b => G a b k := by
  rcases h with h | ⟨a, b, h⟩
  · exact .inl fun k => h _
  · rcases hG a b with g | ⟨c, g⟩
    · exact .inl fun k => (h _).trans (g k)
    · exact .inr ⟨c, fun k => (h _).trans (g k)⟩
theorem okK_par {α : Type} {F : (α → Bool) → Bool} (b : Bool) (h : Par F) : Par fun k => okK false b (F k) := Par.ite (F := F) b h Par.bad
theorem tyK_par (t : TypeId) : Par fun k => tyK false Γ t k := by
  unfold tyK
  cases Γ.ty.get t with
  | none => exact Par.bad
  | some ti => exact Par.pure ti
theorem cells_par (h : H) (b : Nat) : Par2 fun k => cellsK false h b k := by
  unfold cellsK
  split
  · rename_i t r hq; exact .inr ⟨t, r, fun _ => rfl⟩
  · exact .inl fun _ => rfl
theorem new_par (h : H) (nx : Nat) (bk : Bk) : Par2 fun k => newK false true h nx bk k := by
  unfold newK
  rcases put_par 64 h nx (some bk) with e | ⟨h', e⟩
  · exact .inl fun k => e _
  · exact .inr ⟨h', Nat.succ nx, fun k => (e _).trans (natK_eq _ _ _)⟩
theorem src_par (h : H) (a : A) (z n : Nat) : Par fun k => srcK false true h a z n k := by
  unfold srcK
  split
  · rename_i b o l c; exact okK_par _ ((cells_par h b).bind (G := fun _ r k => r.sub false true o (Nat.mul n z) k) fun _ r => sub_par r _ _)
  · rename_i b o l z'; exact okK_par _ ((cells_par h b).bind (G := fun _ r k => r.sub false true o (Nat.mul n z) k) fun _ r => sub_par r _ _)
  · exact okK_par (F := fun k => k _) _ (Par.pure _)
  · simp only [natK_eq]; exact okK_par (F := fun k => k _) _ (Par.pure _)
  · exact Par.bad
abbrev Out3 := V × H × Nat
theorem elem3_par (tk : TK) {F : Nat → (Out3 → Bool) → Bool} (h : ∀ e, Par (F e)) : Par fun k => elem3K false tk fun e => F e k := by
  unfold elem3K
  split
  · exact h _
  · exact Par.bad
theorem byte_par (e : Nat) {F : (Out3 → Bool) → Bool} (h : Par F) : Par fun k => byteTy false Γ e (F k) := by
  unfold byteTy
  refine (tyK_par e).bind (G := fun te k => match te.k with | .int kd => okK false (kEq kd .u8) (F k) | _ => false) fun te => ?_
  cases te.k with
  | int kd => exact okK_par _ h
  | _ => exact Par.bad
theorem conv_par (fl : Nat) (s d : TypeId) (h : H) (nx : Nat) (x : A) : Par fun k : Out3 → Bool => convK false Γ true fl s d h nx x fun v h nx => k (v, h, nx) := by
  unfold convK
  refine (tyK_par s).bind (G := fun ts k => tyK false Γ d fun td => _) fun ts => ?_
  refine (tyK_par d).bind (G := fun td k => _) fun td => ?_
  split
  · split
    · simp only [natK_eq]; exact Par.pure (α := Out3) (V.at (.int _ (cvI _ _ _)), h, nx)
    · exact Par.bad
  · split
    · exact Par.pure (α := Out3) (_, h, nx)
    · rename_i b o n c
      refine elem3_par _ (F := fun e k => _) fun e => byte_par e ((src_par h (.slice b o n c) 1 n).bind (G := fun q k => match q.bytes with | some (_, s) => natK true s fun s => k (V.at (.str n s), h, nx) | none => false) fun q => ?_)
      split
      · simp only [natK_eq]; exact Par.pure (α := Out3) (V.at (.str _ _), h, nx)
      · exact Par.bad
    · rename_i b o n z
      refine elem3_par _ (F := fun e k => _) fun e => byte_par e ((src_par h (.slu b o n z) 1 n).bind (G := fun q k => match q.bytes with | some (_, s) => natK true s fun s => k (V.at (.str n s), h, nx) | none => false) fun q => ?_)
      split
      · simp only [natK_eq]; exact Par.pure (α := Out3) (V.at (.str _ _), h, nx)
      · exact Par.bad
    · exact elem3_par _ (F := fun e k => _) fun e => byte_par e (Par.pure (α := Out3) (V.at (.str 0 0), h, nx))
    · exact Par.bad
  · refine byte_par _ (F := fun k => _) ?_
    split
    · exact okK_par _ ((new_par h nx _).bind (G := fun h' nx' k => k (V.at (.slu nx 0 _ 1), h', nx')) fun h' nx' => Par.pure (α := Out3) _)
    · refine okK_par _ ((cells_par h _).bind (G := fun bt r k => setK false h _ (.cells bt r) fun h => k (V.at (.slice _ _ _ _), h, nx)) fun bt r => ?_)
      exact (put_par 64 h _ (some (.cells bt r))).bind (G := fun h' k => k (V.at (.slice _ _ _ _), h', nx)) fun h' => Par.pure (α := Out3) _
    · refine okK_par _ ((cells_par h _).bind (G := fun bt r k => setK false h _ (.cells bt r) fun h => k (V.at (.slu _ _ _ _), h, nx)) fun bt r => ?_)
      exact (put_par 64 h _ (some (.cells bt r))).bind (G := fun h' k => k (V.at (.slu _ _ _ _), h', nx)) fun h' => Par.pure (α := Out3) _
    · exact Par.bad
  · exact Par.bad
theorem Par.t3 {F : (V → H → Nat → Bool) → Bool} (h : Par fun k : Out3 → Bool => F fun v h nx => k (v, h, nx)) {k : V → H → Nat → Bool} (hk : F k = true) : ∃ v h nx, (∀ k', F k' = k' v h nx) ∧ k v h nx = true := by
  obtain ⟨⟨v, h', nx⟩, e, e2⟩ := h.t (k := fun p => k p.1 p.2.1 p.2.2) hk
  exact ⟨v, h', nx, fun k' => e fun p => k' p.1 p.2.1 p.2.2, e2⟩
theorem cv_sim {s d : TypeId} {x : Operand} {g : GA} (hg : SimA g x) : SimOp Γ (cvF Γ s d g) (.convert s d x) := by
  intro C C' fl fd e env h nx k k' hC he hk H
  obtain ⟨a, _, e1, H⟩ := hg e env _ he H
  have H : convK false Γ true fl s d h nx a (fun v h nx => k v (.mk h nx)) = true := H
  obtain ⟨v, h', nx', e2, H⟩ := (conv_par fl s d h nx a).t3 (F := fun k => convK false Γ true fl s d h nx a k) H
  show (eA false true env x fun x => convK false Γ true fl s d h nx x k') = true
  rw [e1, e2]; exact hk _ _ _ H
theorem sa_sim {t et : TypeId} {n : Nat} {ti : TI} {x : Operand} {g : GA} (ht : ∀ k' : TI → Bool, tyK false Γ t k' = k' ti) (hti : ti.k = .ar n et) (hn : Nat.ble 1 n = true) (hg : SimA g x) : SimOp Γ (saF n g) (.sliceToArrayPointer t x) := by
  intro C C' fl fd e env h nx k k' hC he hk H
  obtain ⟨a, _, e1, H⟩ := hg e env _ he H
  show (tyK false Γ t fun ti => eA false true env x fun a => match ti.k with
    | .ar n _ => lenA false a fun l => okK false (Nat.ble n l) (match a with | .slice b o _ _ => okK false (Nat.blt 0 n) (k' (.at (.ptr b o)) h nx) | .slu b o _ _ => okK false (Nat.blt 0 n) (k' (.at (.ptr b o)) h nx) | _ => false)
    | _ => false) = true
  rw [ht, e1, hti]
  rcases aS_t H with ⟨b, o, l, c, rfl, H⟩ | ⟨b, o, l, c, rfl, H⟩ | ⟨rfl, H⟩ | ⟨_, _, rfl, H⟩
  · obtain ⟨e2, H⟩ := iF_t H
    show okK false (Nat.ble n l) (okK false (Nat.blt 0 n) (k' (.at (.ptr b o)) h nx)) = true
    rw [e2, show Nat.blt 0 n = true from hn]; exact hk _ _ _ H
  · obtain ⟨e2, H⟩ := iF_t H
    show okK false (Nat.ble n l) (okK false (Nat.blt 0 n) (k' (.at (.ptr b o)) h nx)) = true
    rw [e2, show Nat.blt 0 n = true from hn]; exact hk _ _ _ H
  · cases H
  · cases H
theorem mf_sim {f : Fn} {fs cs : Array Operand} {a b : LsA} (ha : SimLa a fs.toList) (hb : SimLa b cs.toList) : SimOp Γ (mfF f a b) (.makeFunc f fs cs) := by
  intro C C' fl fd e env h nx k k' hC he hk H
  obtain ⟨l1, e1, H⟩ := ha e env _ he H
  obtain ⟨l2, e2, H⟩ := hb e env _ he H
  show (eAs false true env fs.toList fun fs => eAs false true env cs.toList fun cs => k' (.at (.fn f fs cs)) h nx) = true
  rw [e1, e2]; exact hk _ _ _ H
theorem ms_sim {t et : TypeId} {ti te : TI} {l c : Operand} {gl gc : GN} (ht : ∀ k' : TI → Bool, tyK false Γ t k' = k' ti) (hti : ti.k = .sl et) (hte : ∀ k' : TI → Bool, tyK false Γ et k' = k' te) (hl : SimX gl l) (hc : SimX gc c) : SimOp Γ (msF et te gl gc) (.makeSlice t l c) := by
  intro C C' fl fd e env h nx k k' hC he hk H
  obtain ⟨a1, n1, e1, e2, H⟩ := hl e env _ he H
  obtain ⟨a2, n2, e3, e4, H⟩ := hc e env _ he H
  obtain ⟨h1, H⟩ := iF_t H
  obtain ⟨h2, H⟩ := iF_t H
  obtain ⟨h3, H⟩ := iF_t H
  obtain ⟨h', e5, H⟩ := hN_t H
  show (tyK false Γ t fun ti => match ti.k with
    | .sl e => tyK false Γ e fun te => eA false true env l fun l => idxK false l fun l => eA false true env c fun c => idxK false c fun c =>
        okK false (two (two (Nat.ble l c) (Nat.ble c 1000000000000)) (Nat.ble (Nat.mul te.bytes c) 281474976710656)) (newK false true h nx (.cells e (zerosR c te)) fun h nx' => k' (.at (.slice nx 0 l c)) h nx')
    | _ => false) = true
  rw [ht, hti]
  show (tyK false Γ et fun te => eA false true env l fun l => idxK false l fun l => eA false true env c fun c => idxK false c fun c =>
        okK false (two (two (Nat.ble l c) (Nat.ble c 1000000000000)) (Nat.ble (Nat.mul te.bytes c) 281474976710656)) (newK false true h nx (.cells et (zerosR c te)) fun h nx' => k' (.at (.slice nx 0 l c)) h nx')) = true
  rw [hte, e1, e2, e3, e4, h1, h2, h3]
  show (newK false true h nx (.cells et (zerosR n2 te)) fun h nx' => k' (.at (.slice nx 0 n1 n2)) h nx') = true
  rw [e5]; exact hk _ _ _ H
theorem two3 {a b c : Bool} (h1 : a = true) (h2 : b = true) (h3 : c = true) : two (two a b) c = true := by subst h1 h2 h3; rfl
theorem slc_sim {t et : TypeId} {ti te : TI} {x : Operand} {lo hi mx : Option Operand} {g : GA} {gl gh gm : BdF} (hm : (bif hi.isNone then mx.isNone else true) = true) (ht : ∀ k' : TI → Bool, tyK false Γ t k' = k' ti) (hti : ti.k = .sl et) (hte : ∀ k' : TI → Bool, tyK false Γ et k' = k' te)
    (hg : SimA g x) (hl : SimBd gl lo) (hh : SimBd gh hi) (hx : SimBd gm mx) : SimOp Γ (slcF te.size mx.isSome g gl gh gm) (.slice t x lo hi mx) := by
  intro C C' fl fd e env h nx k k' hC he hk H
  obtain ⟨a, _, e1, H⟩ := hg e env _ he H
  show sliceK false Γ true env t x lo hi mx (fun v => k' v h nx) = true
  unfold sliceK
  rw [hm, ht, e1]
  rcases aS_t H with ⟨b, o, n, c, rfl, H⟩ | ⟨b, o, n, z', rfl, H⟩ | ⟨rfl, H⟩ | ⟨_, _, rfl, H⟩
  · obtain ⟨c', e2, H⟩ := hx e env _ _ he H
    obtain ⟨q, e3, H⟩ := hh e env _ _ he H
    obtain ⟨l, e4, H⟩ := hl e env _ _ he H
    obtain ⟨h1, H⟩ := iF_t H
    obtain ⟨h2, H⟩ := iF_t H
    obtain ⟨h3, H⟩ := iF_t H
    simp only [nK_eq, iF_eq] at H
    show (elemK false Γ ti.k fun te => _) = true
    rw [hti]
    show (tyK false Γ et fun te => _) = true
    rw [hte, e2, e3, e4, two3 h1 h2 h3]
    show (strA true (.slice b (bif Nat.beq c' l then o else Nat.add o (Nat.mul l te.size)) (Nat.sub q l) (Nat.sub c' l)) fun a => k' (.at a) h nx) = true
    rw [strA_eq]; exact hk _ _ _ H
  · obtain ⟨h0, H⟩ := iF_t H
    show (elemK false Γ ti.k fun te => okK false (Nat.beq te.size z') _) = true
    rw [hti]
    show (tyK false Γ et fun te => okK false (Nat.beq te.size z') _) = true
    rw [hte, h0]
    cases mx with
    | none =>
      obtain ⟨q, e3, H⟩ := hh e env _ _ he H
      obtain ⟨l, e4, H⟩ := hl e env _ _ he H
      obtain ⟨h1, H⟩ := iF_t H
      obtain ⟨h2, H⟩ := iF_t H
      simp only [nK_eq] at H
      show (bndK false true env hi n fun h_1 => bndK false true env lo 0 fun l => okK false (two (Nat.ble l h_1) (Nat.ble h_1 n)) (strA true (.slu b (Nat.add o (Nat.mul l z')) (Nat.sub h_1 l) z') fun a => k' (.at a) h nx)) = true
      rw [e3, e4, h1, h2, strA_eq]; exact hk _ _ _ H
    | some m =>
      obtain ⟨c', e2, H⟩ := hx e env _ _ he H
      obtain ⟨q, e3, H⟩ := hh e env _ _ he H
      obtain ⟨l, e4, H⟩ := hl e env _ _ he H
      obtain ⟨h1, H⟩ := iF_t H
      obtain ⟨h2, H⟩ := iF_t H
      obtain ⟨h3, H⟩ := iF_t H
      simp only [nK_eq, iF_eq] at H
      show (bndK false true env (some m) 0 fun c' => bndK false true env hi 0 fun h_1 => bndK false true env lo 0 fun l => okK false (two (two (Nat.ble l h_1) (Nat.ble h_1 c')) (Nat.ble c' n)) (strA true (.slice b (bif Nat.beq c' l then o else Nat.add o (Nat.mul l z')) (Nat.sub h_1 l) (Nat.sub c' l)) fun a => k' (.at a) h nx)) = true
      have e3' : ∀ k' : Nat → Bool, bndK false true env hi 0 k' = k' q := by
        cases hi with
        | none => simp at hm
        | some hi => exact e3
      rw [e2, e3', e4, two3 h1 h2 h3, strA_eq]; exact hk _ _ _ H
  · obtain ⟨l, e4, H⟩ := hl e env _ _ he H
    obtain ⟨q, e3, H⟩ := hh e env _ _ he H
    obtain ⟨c', e2, H⟩ := hx e env _ _ he H
    obtain ⟨h1, H⟩ := iF_t H
    obtain ⟨h2, H⟩ := iF_t H
    obtain ⟨h3, H⟩ := iF_t H
    show (elemK false Γ ti.k fun te => _) = true
    rw [hti]
    show (tyK false Γ et fun te => _) = true
    rw [hte, e4, e3, e2, h1, h2, h3]; exact hk _ _ _ H
  · cases H
theorem sls_sim {t : TypeId} {ti : TI} {x : Operand} {lo hi mx : Option Operand} {g : GA} {gl gh : BdF} (hm : (bif hi.isNone then mx.isNone else true) = true) (hmx : mx.isNone = true) (ht : ∀ k' : TI → Bool, tyK false Γ t k' = k' ti) (hti : ti.k = .str)
    (hg : SimA g x) (hl : SimBd gl lo) (hh : SimBd gh hi) : SimOp Γ (slsF g gl gh) (.slice t x lo hi mx) := by
  intro C C' fl fd e env h nx k k' hC he hk H
  obtain ⟨a, _, e1, H⟩ := hg e env _ he H
  show sliceK false Γ true env t x lo hi mx (fun v => k' v h nx) = true
  unfold sliceK
  rw [hm, ht, e1]
  rcases aS_t H with ⟨b, o, n, c, rfl, H⟩ | ⟨b, o, n, z', rfl, H⟩ | ⟨rfl, H⟩ | ⟨n, s, rfl, H⟩
  · cases H
  · cases H
  · cases H
  · obtain ⟨l, e4, H⟩ := hl e env _ _ he H
    obtain ⟨q, e3, H⟩ := hh e env _ _ he H
    obtain ⟨h1, H⟩ := iF_t H
    obtain ⟨h2, H⟩ := iF_t H
    simp only [nK_eq] at H
    show (match ti.k with
      | .str => bndK false true env lo 0 fun l => bndK false true env hi n fun h_1 => okK false (two mx.isNone (two (Nat.ble l h_1) (Nat.ble h_1 n))) (strA true (.str (Nat.sub h_1 l) (lo8 (dn8 s l) (Nat.sub h_1 l))) fun a => k' (.at a) h nx)
      | _ => false) = true
    rw [hti]
    show (bndK false true env lo 0 fun l => bndK false true env hi n fun h_1 => okK false (two mx.isNone (two (Nat.ble l h_1) (Nat.ble h_1 n))) (strA true (.str (Nat.sub h_1 l) (lo8 (dn8 s l) (Nat.sub h_1 l))) fun a => k' (.at a) h nx)) = true
    rw [e4, e3, hmx, h1, h2, strA_eq]; exact hk _ _ _ H
theorem sla_sim {t et : TypeId} {n : Nat} {ti te : TI} {x : Operand} {lo hi mx : Option Operand} {p : GP} {gl gh gm : BdF} (hm : (bif hi.isNone then mx.isNone else true) = true) (hn : Nat.ble n 1000000000000 = true) (ht : ∀ k' : TI → Bool, tyK false Γ t k' = k' ti) (hti : ti.k = .ar n et) (hte : ∀ k' : TI → Bool, tyK false Γ et k' = k' te)
    (hg : SimPt p x) (hl : SimBd gl lo) (hh : SimBd gh hi) (hx : SimBd gm mx) : SimOp Γ (slaF n te.size p gl gh gm) (.slice t x lo hi mx) := by
  intro C C' fl fd e env h nx k k' hC he hk H
  obtain ⟨b, o, e1, H⟩ := hg e env _ he H
  show sliceK false Γ true env t x lo hi mx (fun v => k' v h nx) = true
  unfold sliceK
  rw [hm, ht, e1]
  obtain ⟨c', e2, H⟩ := hx e env _ _ he H
  obtain ⟨q, e3, H⟩ := hh e env _ _ he H
  obtain ⟨l, e4, H⟩ := hl e env _ _ he H
  obtain ⟨h1, H⟩ := iF_t H
  obtain ⟨h2, H⟩ := iF_t H
  obtain ⟨h3, H⟩ := iF_t H
  simp only [nK_eq, iF_eq] at H
  show (match ti.k with
    | .ar n e => tyK false Γ e fun te => bndK false true env mx n fun c' => bndK false true env hi n fun h_1 => bndK false true env lo 0 fun l =>
        okK false (two (two (two (Nat.ble l h_1) (Nat.ble h_1 c')) (Nat.ble c' n)) (Nat.ble n 1000000000000)) (strA true (.slice b (bif Nat.beq c' l then o else Nat.add o (Nat.mul l te.size)) (Nat.sub h_1 l) (Nat.sub c' l)) fun a => k' (.at a) h nx)
    | _ => false) = true
  rw [hti]
  show (tyK false Γ et fun te => bndK false true env mx n fun c' => bndK false true env hi n fun h_1 => bndK false true env lo 0 fun l =>
        okK false (two (two (two (Nat.ble l h_1) (Nat.ble h_1 c')) (Nat.ble c' n)) (Nat.ble n 1000000000000)) (strA true (.slice b (bif Nat.beq c' l then o else Nat.add o (Nat.mul l te.size)) (Nat.sub h_1 l) (Nat.sub c' l)) fun a => k' (.at a) h nx)) = true
  rw [hte, e2, e3, e4, two3 h1 h2 h3, hn, strA_eq]; exact hk _ _ _ H
theorem fa_sim {s : TypeId} {f o : Nat} {ti : TI} {x : Operand} {p : GP} (hf : ∀ k' : TI → Bool, (fieldOf false Γ s f fun o t => tyK false Γ t fun ti => k' ti) = k' ti) (ho : ∀ k' : Nat → TI → Bool, (fieldOf false Γ s f fun o t => tyK false Γ t fun ti => k' o ti) = k' o ti) (hs : Nat.ble 1 ti.size = true) (hp : SimPt p x) : SimOp Γ (faF o p) (.fieldAddr s x f) := by
  intro C C' fl fd e env h nx k k' hC he hk H
  obtain ⟨b, q, e1, H⟩ := hp e env _ he H
  rw [nK_eq] at H
  show (fieldOf false Γ s f fun o t => tyK false Γ t fun ti => okK false (Nat.blt 0 ti.size) <| eA false true env x fun a => ptrK false a fun b p => natK true (Nat.add p o) fun p => k' (.at (.ptr b p)) h nx) = true
  rw [ho fun o ti => okK false (Nat.blt 0 ti.size) <| eA false true env x fun a => ptrK false a fun b p => natK true (Nat.add p o) fun p => k' (.at (.ptr b p)) h nx]
  rw [show Nat.blt 0 ti.size = true from hs, e1]
  show (natK true (Nat.add q o) fun p => k' (.at (.ptr b p)) h nx) = true
  rw [natK_eq]; exact hk _ _ _ H
theorem fd_sim {s : TypeId} {f o : Nat} {ti : TI} {x : Operand} {g : GV} (ho : ∀ k' : Nat → TI → Bool, (fieldOf false Γ s f fun o t => tyK false Γ t fun ti => k' o ti) = k' o ti) (hg : SimG g x) : SimOp Γ (iF ti.agg (fdG o ti.size g) (fdF o g)) (.field s x f) := by
  intro C C' fl fd e env h nx k k' hC he hk H
  show (fieldOf false Γ s f fun o t => tyK false Γ t fun ti => eO false true env x fun v => match v with | .agg r => partK false true ti r o fun v => k' v h nx | _ => false) = true
  rw [ho fun o ti => eO false true env x fun v => match v with | .agg r => partK false true ti r o fun v => k' v h nx | _ => false]
  cases ha : ti.agg with
  | true =>
    rw [ha] at H
    obtain ⟨v, e1, H⟩ := hg e env _ he H
    obtain ⟨r, rfl, H⟩ := vG_t H
    obtain ⟨q, e2, H⟩ := rS_t H
    rw [e1]
    show partK false true ti r o (fun v => k' v h nx) = true
    unfold partK
    rw [ha, cond_true, e2]; exact hk _ _ _ H
  | false =>
    rw [ha] at H
    obtain ⟨v, e1, H⟩ := hg e env _ he H
    obtain ⟨r, rfl, H⟩ := vG_t H
    obtain ⟨q, e2, H⟩ := rG_t H
    rw [e1]
    show partK false true ti r o (fun v => k' v h nx) = true
    unfold partK
    rw [ha, cond_false, e2]
    show (strA true q fun a => k' (.at a) h nx) = true
    rw [strA_eq]; exact hk _ _ _ H
theorem ix_sim {t et : TypeId} {ti te : TI} {x i : Operand} {g : GA} {gi : GN} (ht : ∀ k' : TI → Bool, tyK false Γ t k' = k' ti) (hti : ti.k = .sl et) (hte : ∀ k' : TI → Bool, tyK false Γ et k' = k' te) (hg : SimA g x) (hi : SimX gi i) : SimOp Γ (ixF te.size g gi) (.indexAddr t x i) := by
  intro C C' fl fd e env h nx k k' hC he hk H
  obtain ⟨a, _, e1, H⟩ := hg e env _ he H
  obtain ⟨ai, n, e2, e3, H⟩ := hi e env _ he H
  show (eA false true env x fun x => eA false true env i fun i => indexK false Γ true t x i fun v => k' v h nx) = true
  rw [e1, e2]
  unfold indexK
  rw [ht, e3]
  rcases aS_t H with ⟨b, o, l, c, rfl, H⟩ | ⟨b, o, l, z', rfl, H⟩ | ⟨rfl, H⟩ | ⟨_, _, rfl, H⟩
  · obtain ⟨h1, H⟩ := iF_t H
    rw [nK_eq] at H
    show (elemK false Γ ti.k fun te => okK false (Nat.blt n l) (strA true (.ptr b (Nat.add o (Nat.mul n te.size))) fun a => k' (.at a) h nx)) = true
    rw [hti]
    show (tyK false Γ et fun te => okK false (Nat.blt n l) (strA true (.ptr b (Nat.add o (Nat.mul n te.size))) fun a => k' (.at a) h nx)) = true
    rw [hte, show Nat.blt n l = true from h1, strA_eq]; exact hk _ _ _ H
  · obtain ⟨h0, H⟩ := iF_t H
    obtain ⟨h1, H⟩ := iF_t H
    rw [nK_eq] at H
    show (elemK false Γ ti.k fun te => okK false (two (Nat.beq te.size z') (Nat.blt n l)) (strA true (.ptr b (Nat.add o (Nat.mul n z'))) fun a => k' (.at a) h nx)) = true
    rw [hti]
    show (tyK false Γ et fun te => okK false (two (Nat.beq te.size z') (Nat.blt n l)) (strA true (.ptr b (Nat.add o (Nat.mul n z'))) fun a => k' (.at a) h nx)) = true
    rw [hte, h0, show Nat.blt n l = true from h1, strA_eq]; exact hk _ _ _ H
  · cases H
  · cases H
theorem ixA_sim {t et : TypeId} {m : Nat} {ti te : TI} {x i : Operand} {p : GP} {gi : GN} (ht : ∀ k' : TI → Bool, tyK false Γ t k' = k' ti) (hti : ti.k = .ar m et) (hte : ∀ k' : TI → Bool, tyK false Γ et k' = k' te) (hg : SimPt p x) (hi : SimX gi i) : SimOp Γ (ixA m te.size p gi) (.indexAddr t x i) := by
  intro C C' fl fd e env h nx k k' hC he hk H
  obtain ⟨b, o, e1, H⟩ := hg e env _ he H
  obtain ⟨ai, n, e2, e3, H⟩ := hi e env _ he H
  obtain ⟨h1, H⟩ := iF_t H
  rw [nK_eq] at H
  show (eA false true env x fun x => eA false true env i fun i => indexK false Γ true t x i fun v => k' v h nx) = true
  rw [e1, e2]
  unfold indexK
  rw [ht, e3]
  show (match ti.k with | .ar n_1 e => tyK false Γ e fun te => okK false (Nat.blt n n_1) (strA true (.ptr b (Nat.add o (Nat.mul n te.size))) fun a => k' (.at a) h nx) | _ => false) = true
  rw [hti]
  show (tyK false Γ et fun te => okK false (Nat.blt n m) (strA true (.ptr b (Nat.add o (Nat.mul n te.size))) fun a => k' (.at a) h nx)) = true
  rw [hte, show Nat.blt n m = true from h1, strA_eq]; exact hk _ _ _ H
theorem iv_sim {t et : TypeId} {m : Nat} {ti te : TI} {x i : Operand} {g : GV} {gi : GN} (ht : ∀ k' : TI → Bool, tyK false Γ t k' = k' ti) (hti : ti.k = .ar m et) (hte : ∀ k' : TI → Bool, tyK false Γ et k' = k' te) (hg : SimG g x) (hi : SimX gi i) : SimOp Γ (iF te.agg (ivG m te.size g gi) (ivF m te.size g gi)) (.index t x i) := by
  intro C C' fl fd e env h nx k k' hC he hk H
  have goal : ∀ v a n r, v = V.agg r → (∀ k' : V → Bool, eO false true env x k' = k' v) → (∀ k' : A → Bool, eA false true env i k' = k' a) → (∀ k' : Nat → Bool, idxK false a k' = k' n) → Nat.blt n m = true → partK false true te r (Nat.mul n te.size) (fun v => k' v h nx) = true → evO false C' Γ true fl fd (.index t x i) env h nx k' = true := by
    rintro v a n r rfl e1 e2 e3 h1 h2
    show (eO false true env x fun x => eA false true env i fun i => indexV false Γ true t x i fun v => k' v h nx) = true
    rw [e1, e2]
    unfold indexV
    rw [ht, e3]
    show (match ti.k with | .ar n_1 e => tyK false Γ e fun te => okK false (Nat.blt n n_1) (partK false true te r (Nat.mul n te.size) fun v => k' v h nx) | _ => false) = true
    rw [hti]
    show (tyK false Γ et fun te => okK false (Nat.blt n m) (partK false true te r (Nat.mul n te.size) fun v => k' v h nx)) = true
    rw [hte, h1]; exact h2
  cases ha : te.agg with
  | true =>
    rw [ha] at H
    obtain ⟨v, e1, H⟩ := hg e env _ he H
    obtain ⟨a, n, e2, e3, H⟩ := hi e env _ he H
    obtain ⟨r, rfl, H⟩ := vG_t H
    obtain ⟨h1, H⟩ := iF_t H
    obtain ⟨q, e4, H⟩ := rS_t H
    refine goal _ a n r rfl e1 e2 e3 h1 ?_
    unfold partK
    rw [ha, cond_true, e4]; exact hk _ _ _ H
  | false =>
    rw [ha] at H
    obtain ⟨v, e1, H⟩ := hg e env _ he H
    obtain ⟨a, n, e2, e3, H⟩ := hi e env _ he H
    obtain ⟨r, rfl, H⟩ := vG_t H
    obtain ⟨h1, H⟩ := iF_t H
    obtain ⟨q, e4, H⟩ := rG_t H
    refine goal _ a n r rfl e1 e2 e3 h1 ?_
    unfold partK
    rw [ha, cond_false, e4]
    show (strA true q fun a => k' (.at a) h nx) = true
    rw [strA_eq]; exact hk _ _ _ H
theorem ivS_sim {t : TypeId} {ti : TI} {x i : Operand} {g : GA} {gi : GN} (ht : ∀ k' : TI → Bool, tyK false Γ t k' = k' ti) (hti : ti.k = .str) (hg : SimA g x) (hi : SimX gi i) : SimOp Γ (ivS g gi) (.index t x i) := by
  intro C C' fl fd e env h nx k k' hC he hk H
  obtain ⟨a, e1, _, H⟩ := hg e env _ he H
  obtain ⟨ai, n, e2, e3, H⟩ := hi e env _ he H
  show (eO false true env x fun x => eA false true env i fun i => indexV false Γ true t x i fun v => k' v h nx) = true
  rw [e1, e2]
  unfold indexV
  rw [ht, e3]
  rcases aS_t H with ⟨b, o, l, c, rfl, H⟩ | ⟨b, o, l, z', rfl, H⟩ | ⟨rfl, H⟩ | ⟨l, s, rfl, H⟩
  · cases H
  · cases H
  · cases H
  · obtain ⟨h1, H⟩ := iF_t H
    rw [nK_eq] at H
    show (match ti.k with | .str => okK false (Nat.blt n l) (natK true (lo8 (dn8 s n) 1) fun b => k' (.at (.int .u8 b)) h nx) | _ => false) = true
    rw [hti]
    show okK false (Nat.blt n l) (natK true (lo8 (dn8 s n) 1) fun b => k' (.at (.int .u8 b)) h nx) = true
    rw [show Nat.blt n l = true from h1, natK_eq]; exact hk _ _ _ H
theorem nt_ok : ∀ {i : Nat} {f : NthF}, ntC i = .mk f → ∀ (l : List V) (k : V → Bool), f l k = true → ∃ v, l[i]? = some v ∧ k v = true
  | 0, f, h, l, k, H => by
    cases h
    cases l with
    | nil => cases H
    | cons v t => exact ⟨v, rfl, (vV_t H).2⟩
  | i + 1, f, h, l, k, H => by
    unfold ntC at h
    obtain ⟨g, h1, h⟩ := Cl.go_mk h
    cases h
    cases l with
    | nil => cases H
    | cons v t => exact nt_ok h1 t k H
theorem ex_sim {x : Operand} {i : Nat} {f : NthF} {g : GV} (hf : ntC i = .mk f) (hg : SimG g x) : SimOp Γ (exF f g) (.extract x i) := by
  intro C C' fl fd e env h nx k k' hC he hk H
  obtain ⟨v, e1, H⟩ := hg e env _ he H
  obtain ⟨l, rfl, H⟩ := vT_t H
  obtain ⟨w, e2, H⟩ := nt_ok hf l _ H
  show (eO false true env x fun v => match v with | .tup vs => (match vs[i]? with | some v => k' v h nx | none => false) | _ => false) = true
  rw [e1]
  show (match l[i]? with | some v => k' v h nx | none => false) = true
  rw [e2]; exact hk _ _ _ H
end Go.S
