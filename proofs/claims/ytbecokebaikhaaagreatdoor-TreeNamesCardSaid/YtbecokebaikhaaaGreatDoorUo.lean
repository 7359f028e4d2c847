import Derived.Test.YtbecokebaikhaaaGreatDoorUj
import Derived.Test.YtbecokebaikhaaaGreatDoorUd
import Derived.Test.YtbecokebaikhaaaGreatDoorUn
set_option linter.unusedSimpArgs false
set_option linter.unusedVariables false
set_option linter.unusedSectionVars false
namespace Go.Proofs.YtbecokebaikhaaaGreatDoor
open Go Go.RowKit Go.V Go.E
set_option maxRecDepth 20000
def w8V {R : Type} (a b c d e f g h : Nat) (k : Rope → R) : R := ropeL true [.int .u64 a, .int .u64 b, .int .u64 c, .int .u64 d, .int .u64 e, .int .u64 f, .int .u64 g, .int .u64 h] k
def at8 {R : Type} (bad : R) (r : Rope) (k : Nat → Nat → Nat → Nat → Nat → Nat → Nat → Nat → R) : R := okK bad (Nat.beq r.len 8) (match r.atoms 8 0 with
  | some [.int .u64 a, .int .u64 b, .int .u64 c, .int .u64 d, .int .u64 e, .int .u64 f, .int .u64 g, .int .u64 h] => okK bad (Nat.ble a 18446744073709551615) (okK bad (Nat.ble b 18446744073709551615) (okK bad (Nat.ble c 18446744073709551615) (okK bad (Nat.ble d 18446744073709551615) (okK bad (Nat.ble e 18446744073709551615) (okK bad (Nat.ble f 18446744073709551615) (okK bad (Nat.ble g 18446744073709551615) (okK bad (Nat.ble h 18446744073709551615) (k a b c d e f g h))))))))
  | _ => bad)
noncomputable def pieceV {R : Type} (bad : R) (r q : Rope) (k : V → R) : R := match q.bytes with
  | some (n, s) => okK bad (Nat.beq n 128) (at8 bad r fun a b c d e f g h => pieceN a b c d e f g h s fun a b c d e f g h => w8V a b c d e f g h fun r => k (.agg r))
  | none => bad
noncomputable def conPiece : Con := ⟨fun bad vs h _ _ nx k => match vs with
  | [.agg r, .agg q] => pieceV bad r q fun v => k v h nx
  | _ => bad⟩
noncomputable def conRPiece : Con := ⟨fun bad vs h _ _ nx k => match vs with
  | [.agg r, .at (.slice b o n c)] => okK bad (Nat.beq n 128) (cellsK bad h b fun _ x => x.sub bad true o 128 fun q => pieceV bad r q fun v => k v h nx)
  | [.agg r, .at (.slu b o n z)] => okK bad (Nat.beq n 128) (cellsK bad h b fun _ x => x.sub bad true o 128 fun q => pieceV bad r q fun v => k v h nx)
  | _ => bad⟩
section
variable [Gl]
theorem wB_of {a : Nat} (ha : a < 18446744073709551616) {ρ : Plc} {v : Value} (h : AR ρ (.int .u64 a) v) : v = wB (BitVec.ofNat 64 a) := by
  cases h
  rw [wrapM]
  show _ = Value.int .u64 ((BitVec.ofNat 64 a).toNat : Int)
  rw [BitVec.toNat_ofNat]
theorem ofN {a : Nat} (ha : a < 18446744073709551616) : (BitVec.ofNat 64 a).toNat = a := by
  rw [BitVec.toNat_ofNat]; exact Nat.mod_eq_of_lt ha
theorem wB_ar (x : BitVec 64) (ρ : Plc) : AR ρ (.int .u64 x.toNat) (wB x) := by
  have := AR.int (ρ := ρ) .u64 x.toNat x.isLt
  rwa [wrapB] at this
theorem at8_ok {R : Type} {bad : R} (r : Rope) (k : Nat → Nat → Nat → Nat → Nat → Nat → Nat → Nat → R) {S : R → Prop}
    (hk : ∀ s : St, (∀ ρ cs, RR ρ r cs → cs = s.l.map wB) → Out bad (k s.a.toNat s.b.toNat s.c.toNat s.d.toNat s.e.toNat s.f.toNat s.g.toNat s.h.toNat) S) : Out bad (at8 bad r k) S := by
  unfold at8
  refine out_if fun hlen => ?_
  split
  · rename_i a b c d e f g h hr
    refine out_if fun ha => out_if fun hb => out_if fun hc => out_if fun hd => out_if fun he => out_if fun hf => out_if fun hg => out_if fun hh => ?_
    have ha := Nat.lt_succ_of_le (Nat.le_of_ble_eq_true ha)
    have hb := Nat.lt_succ_of_le (Nat.le_of_ble_eq_true hb)
    have hc := Nat.lt_succ_of_le (Nat.le_of_ble_eq_true hc)
    have hd := Nat.lt_succ_of_le (Nat.le_of_ble_eq_true hd)
    have he := Nat.lt_succ_of_le (Nat.le_of_ble_eq_true he)
    have hf := Nat.lt_succ_of_le (Nat.le_of_ble_eq_true hf)
    have hg := Nat.lt_succ_of_le (Nat.le_of_ble_eq_true hg)
    have hh := Nat.lt_succ_of_le (Nat.le_of_ble_eq_true hh)
    have := hk ⟨BitVec.ofNat 64 a, BitVec.ofNat 64 b, BitVec.ofNat 64 c, BitVec.ofNat 64 d, BitVec.ofNat 64 e, BitVec.ofNat 64 f, BitVec.ofNat 64 g, BitVec.ofNat 64 h⟩ fun ρ cs hcs => ?_
    · simp only [ofN ha, ofN hb, ofN hc, ofN hd, ofN he, ofN hf, ofN hg, ofN hh] at this
      exact this
    · obtain ⟨_, h2⟩ := atoms_ok hcs 8 0 _ hr
      have hl := hcs.len
      rw [Nat.eq_of_beq_eq_true hlen] at hl
      match cs, hl with
      | [c0, c1, c2, c3, c4, c5, c6, c7], _ =>
        have e0 := wB_of ha (h2 0 _ _ rfl rfl)
        have e1 := wB_of hb (h2 1 _ _ rfl rfl)
        have e2 := wB_of hc (h2 2 _ _ rfl rfl)
        have e3 := wB_of hd (h2 3 _ _ rfl rfl)
        have e4 := wB_of he (h2 4 _ _ rfl rfl)
        have e5 := wB_of hf (h2 5 _ _ rfl rfl)
        have e6 := wB_of hg (h2 6 _ _ rfl rfl)
        have e7 := wB_of hh (h2 7 _ _ rfl rfl)
        subst e0 e1 e2 e3 e4 e5 e6 e7
        rfl
  · exact .inl rfl
theorem at8_par (r : Rope) : (∀ k, at8 false r k = false) ∨ ∃ s : St, ∀ k, at8 false r k = k s.a.toNat s.b.toNat s.c.toNat s.d.toNat s.e.toNat s.f.toNat s.g.toNat s.h.toNat := by
  unfold at8
  cases hl : Nat.beq r.len 8 with
  | false => exact .inl fun _ => rfl
  | true =>
    split
    · rename_i a b c d e f g h hr
      cases ha : Nat.ble a 18446744073709551615 with
      | false => exact .inl fun _ => rfl
      | true =>
        cases hb : Nat.ble b 18446744073709551615 with
        | false => exact .inl fun _ => rfl
        | true =>
          cases hc : Nat.ble c 18446744073709551615 with
          | false => exact .inl fun _ => rfl
          | true =>
            cases hd : Nat.ble d 18446744073709551615 with
            | false => exact .inl fun _ => rfl
            | true =>
              cases he : Nat.ble e 18446744073709551615 with
              | false => exact .inl fun _ => rfl
              | true =>
                cases hf : Nat.ble f 18446744073709551615 with
                | false => exact .inl fun _ => rfl
                | true =>
                  cases hg : Nat.ble g 18446744073709551615 with
                  | false => exact .inl fun _ => rfl
                  | true =>
                    cases hh : Nat.ble h 18446744073709551615 with
                    | false => exact .inl fun _ => rfl
                    | true =>
                      refine .inr ⟨⟨BitVec.ofNat 64 a, BitVec.ofNat 64 b, BitVec.ofNat 64 c, BitVec.ofNat 64 d, BitVec.ofNat 64 e, BitVec.ofNat 64 f, BitVec.ofNat 64 g, BitVec.ofNat 64 h⟩, fun k => ?_⟩
                      have ha := Nat.lt_succ_of_le (Nat.le_of_ble_eq_true ha)
                      have hb := Nat.lt_succ_of_le (Nat.le_of_ble_eq_true hb)
                      have hc := Nat.lt_succ_of_le (Nat.le_of_ble_eq_true hc)
                      have hd := Nat.lt_succ_of_le (Nat.le_of_ble_eq_true hd)
                      have he := Nat.lt_succ_of_le (Nat.le_of_ble_eq_true he)
                      have hf := Nat.lt_succ_of_le (Nat.le_of_ble_eq_true hf)
                      have hg := Nat.lt_succ_of_le (Nat.le_of_ble_eq_true hg)
                      have hh := Nat.lt_succ_of_le (Nat.le_of_ble_eq_true hh)
                      simp only [ofN ha, ofN hb, ofN hc, ofN hd, ofN he, ofN hf, ofN hg, ofN hh]
                      rfl
    · exact .inl fun _ => rfl
theorem ropeL_par : ∀ l : List A, S.Par fun k => ropeL true l k
  | [] => S.Par.pure _
  | a :: l => (ropeL_par l).bind (G := fun x k => jn true 1 (ofA a) x k) fun x => S.jn_par _ _ _
theorem pieceV_par (r q : Rope) : S.Par fun k => pieceV false r q k := by
  unfold pieceV
  split
  · rename_i n s hq
    cases hn : Nat.beq n 128 with
    | false => exact S.Par.bad
    | true =>
      rcases at8_par r with h | ⟨st, h⟩
      · exact .inl fun k => h _
      · obtain ⟨e, _, he⟩ := pieceN_ok st s
        rcases ropeL_par [.int .u64 e.a.toNat, .int .u64 e.b.toNat, .int .u64 e.c.toNat, .int .u64 e.d.toNat, .int .u64 e.e.toNat, .int .u64 e.f.toNat, .int .u64 e.g.toNat, .int .u64 e.h.toNat] with h2 | ⟨x, h2⟩
        · exact .inl fun k => (h _).trans ((he _ _).trans (h2 fun r => k (.agg r)))
        · exact .inr ⟨.agg x, fun k => (h _).trans ((he _ _).trans (h2 fun r => k (.agg r)))⟩
  · exact S.Par.bad
theorem conPiece_p : S.ConP conPiece := by
  intro vs h fl fd nx
  unfold conPiece
  dsimp only
  split
  · rename_i r q
    exact (pieceV_par r q).bind (G := fun v (k : S.Out3 → Bool) => k (v, h, nx)) fun v => S.Par.pure (α := S.Out3) _
  · exact S.Par.bad
theorem conRPiece_p : S.ConP conRPiece := by
  intro vs h fl fd nx
  unfold conRPiece
  dsimp only
  split
  · rename_i r b o n c
    refine S.Par.ite (F := fun k : S.Out3 → Bool => cellsK false h b fun _ x => x.sub false true o 128 fun q => pieceV false r q fun v => k (v, h, nx)) (G := fun _ => false) _ ?_ S.Par.bad
    unfold cellsK
    split
    · rename_i t x hb
      exact (S.sub_par x o 128).bind (G := fun q (k : S.Out3 → Bool) => pieceV false r q fun v => k (v, h, nx)) fun q => (pieceV_par r q).bind (G := fun v (k : S.Out3 → Bool) => k (v, h, nx)) fun v => S.Par.pure (α := S.Out3) _
    · exact S.Par.bad
  · rename_i r b o n z
    refine S.Par.ite (F := fun k : S.Out3 → Bool => cellsK false h b fun _ x => x.sub false true o 128 fun q => pieceV false r q fun v => k (v, h, nx)) (G := fun _ => false) _ ?_ S.Par.bad
    unfold cellsK
    split
    · rename_i t x hb
      exact (S.sub_par x o 128).bind (G := fun q (k : S.Out3 → Bool) => pieceV false r q fun v => k (v, h, nx)) fun q => (pieceV_par r q).bind (G := fun v (k : S.Out3 → Bool) => k (v, h, nx)) fun v => S.Par.pure (α := S.Out3) _
    · exact S.Par.bad
  · exact S.Par.bad
theorem nbs_cells (s : Nat) : pbs (nbs s) = bcells 128 s := by
  unfold pbs nbs bcells
  rw [List.map_map]
  rfl
theorem pieceV_ok {R : Type} {bad : R} (r q : Rope) (k : V → R) : Ok1 bad (pieceV bad r q k) k fun v => ∃ (s : St) (n : Nat), (∀ ρ cs, RR ρ r cs → cs = s.l.map wB) ∧ (∀ ρ cs, RR ρ q cs → cs = pbs (nbs n)) ∧ ∀ ρ, VR ρ v (.agg ((pieceB s (nbs n)).map wB).toArray) := by
  show Out bad _ fun e => ∃ v, (∃ (s : St) (n : Nat), (∀ ρ cs, RR ρ r cs → cs = s.l.map wB) ∧ (∀ ρ cs, RR ρ q cs → cs = pbs (nbs n)) ∧ ∀ ρ, VR ρ v (.agg ((pieceB s (nbs n)).map wB).toArray)) ∧ e = k v
  unfold pieceV
  split
  · rename_i n s hq
    refine out_if fun hn => ?_
    cases Nat.eq_of_beq_eq_true hn
    refine at8_ok r _ fun st hst => ?_
    obtain ⟨e, he1, he2⟩ := pieceN_ok st s
    rw [he2]
    refine (ropeL_ok true _ _).out fun x hx => .inr ⟨_, ⟨st, s, hst, fun ρ cs hcs => ?_, fun ρ => ?_⟩, rfl⟩
    · rw [nbs_cells]; exact (rope_bytes hcs hq).1
    · rw [he1]
      refine .agg _ _ (hx ρ (e.l.map wB) rfl fun i a v h1 h2 => ?_)
      rcases i with _ | _ | _ | _ | _ | _ | _ | _ | i
      all_goals first
        | (simp only [St.l, List.map_cons, List.map_nil, List.getElem?_cons_zero, List.getElem?_cons_succ, Option.some.injEq, List.getElem?_nil, reduceCtorEq] at h1 h2; subst h1 h2; exact wB_ar _ _)
        | (simp at h1)
  · exact .inl rfl
theorem conPiece_ok [LoopTab] : ConOk Tryz.prog 212 conPiece := by
  intro R bad fl fd hfl vs h nx k
  unfold conPiece
  dsimp only
  split
  · rename_i r q
    refine (pieceV_ok r q _).out fun v ⟨s, n, h1, h2, h3⟩ => .inr ⟨v, h, nx, fun ρ w xs g0 hg0 hxs hrel => ?_, rfl⟩
    cases hg0
    cases hxs with
    | cons _ x _ xs hx hxs =>
      cases hxs with
      | cons _ y _ xs hy hxs =>
        cases hxs
        cases hx with
        | agg _ cs hcs =>
          cases hy with
          | agg _ ds hds =>
            cases h1 ρ cs hcs
            cases h2 ρ ds hds
            show Res Tryz.prog _ ((callFunc 212 _).run Tryz.prog w)
            rw [enters_of (fi := fiOf Tryz.f212) fn212]
            exact Calls.mono (piece_c s (nbs n) (nbs_len n) (nbs_lt n) w) fun en w' ⟨z, k1, k2, k3⟩ => ⟨z, k1, ρ, by rw [k2]; exact h3 ρ, Stp.ofGrow hrel k3⟩
  · exact .inl rfl
theorem conRPiece_ok [LoopTab] : ConOk Tryz.prog 217 conRPiece := by
  intro R bad fl fd hfl vs h nx k
  unfold conRPiece
  dsimp only
  split
  · rename_i r b o n c
    refine out_if fun hn => ?_
    cases Nat.eq_of_beq_eq_true hn
    rcases cellsK_ok (bad := bad) h b (fun _ x => x.sub bad true o 128 fun q => pieceV bad r q fun v => k v h nx) with e | ⟨t, x, hb, e⟩
    · exact .inl e
    rw [e]
    refine (sub_ok bad true x o 128 _).out fun q hq => ?_
    refine (pieceV_ok r q _).out fun v ⟨s, n, h1, h2, h3⟩ => .inr ⟨v, h, nx, fun ρ w xs g0 hg0 hxs hrel => ?_, rfl⟩
    cases hg0
    cases hxs with
    | cons _ x _ xs hx hxs =>
      cases hxs with
      | cons _ y _ xs hy hxs =>
        cases hxs
        have hy := hy.atom
        cases hx with
        | agg _ cs hcs =>
          cases hy with
          | slice _ _ _ _ o' p hp hn hcm ho =>
            cases h1 ρ cs hcs
            obtain ⟨arr, fr, ds, g1, g2, g3, g4, g5⟩ := hrel.cells hb hp
            obtain ⟨hl, hrr⟩ := hq ρ ds g3
            have e2 := h2 ρ _ hrr
            have ho : o' = p.sh + o := by omega
            have hsl : Sl (fun _ => True) w 1 (some ⟨p.blk, o', none⟩) 128 c (pbs (nbs n)) := by
              refine ⟨by simp [pbs, nbs_len], hn, hcm, (fun h => by cases h), fun _ => ⟨rfl, trivial, (Array.getElem?_eq_some_iff.1 g1).1, fun j v hj => ?_⟩⟩
              rw [← e2, List.getElem?_take] at hj
              split at hj
              · rw [List.getElem?_drop] at hj
                have := g4 _ _ hj
                subst ho
                have := cell_at (o := p.sh + o) (j := j) g1 (by rw [Nat.add_assoc]; exact this)
                rwa [Addr.add_lit] at this
              · cases hj
            show Res Tryz.prog _ ((callFunc 217 _).run Tryz.prog w)
            rw [enters_of (fi := fiOf Tryz.f217) fn217]
            exact Calls.mono (rpiece_c _ s (nbs n) (nbs_len n) (nbs_lt n) _ c w hsl) fun en w' ⟨z, k1, k2, k3⟩ => ⟨z, k1, ρ, by rw [k2]; exact h3 ρ, Stp.ofGrow hrel k3⟩
  · rename_i r b o n z
    refine out_if fun hn => ?_
    cases Nat.eq_of_beq_eq_true hn
    rcases cellsK_ok (bad := bad) h b (fun _ x => x.sub bad true o 128 fun q => pieceV bad r q fun v => k v h nx) with e | ⟨t, x, hb, e⟩
    · exact .inl e
    rw [e]
    refine (sub_ok bad true x o 128 _).out fun q hq => ?_
    refine (pieceV_ok r q _).out fun v ⟨s, n, h1, h2, h3⟩ => .inr ⟨v, h, nx, fun ρ w xs g0 hg0 hxs hrel => ?_, rfl⟩
    cases hg0
    cases hxs with
    | cons _ x _ xs hx hxs =>
      cases hxs with
      | cons _ y _ xs hy hxs =>
        cases hxs
        have hy := hy.atom
        cases hx with
        | agg _ cs hcs =>
          cases hy with
          | slu _ _ _ _ c o' p hp hn hcm ho hsz =>
            cases h1 ρ cs hcs
            obtain ⟨arr, fr, ds, g1, g2, g3, g4, g5⟩ := hrel.cells hb hp
            obtain ⟨hl, hrr⟩ := hq ρ ds g3
            have e2 := h2 ρ _ hrr
            have ho : o' = p.sh + o := by omega
            have hsl : Sl (fun _ => True) w 1 (some ⟨p.blk, o', none⟩) 128 c (pbs (nbs n)) := by
              refine ⟨by simp [pbs, nbs_len], hn, hcm, (fun h => by cases h), fun _ => ⟨rfl, trivial, (Array.getElem?_eq_some_iff.1 g1).1, fun j v hj => ?_⟩⟩
              rw [← e2, List.getElem?_take] at hj
              split at hj
              · rw [List.getElem?_drop] at hj
                have := g4 _ _ hj
                subst ho
                have := cell_at (o := p.sh + o) (j := j) g1 (by rw [Nat.add_assoc]; exact this)
                rwa [Addr.add_lit] at this
              · cases hj
            show Res Tryz.prog _ ((callFunc 217 _).run Tryz.prog w)
            rw [enters_of (fi := fiOf Tryz.f217) fn217]
            exact Calls.mono (rpiece_c _ s (nbs n) (nbs_len n) (nbs_lt n) _ c w hsl) fun en w' ⟨z, k1, k2, k3⟩ => ⟨z, k1, ρ, by rw [k2]; exact h3 ρ, Stp.ofGrow hrel k3⟩
  · exact .inl rfl
end
end Go.Proofs.YtbecokebaikhaaaGreatDoor
