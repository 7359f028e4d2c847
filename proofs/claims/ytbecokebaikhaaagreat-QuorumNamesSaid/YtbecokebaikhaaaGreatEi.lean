/-
  E, ninth text: what an operation does: memory.
-/
import Derived.Test.YtbecokebaikhaaaGreatEh
namespace Go.E
open Go Go.RowKit Go.V
set_option linter.unusedVariables false
set_option linter.unusedSimpArgs false
section
variable {R : Type} {bad : R} {P : Program} {fl fd : Nat} {env : En} {h : H} {nx : Nat} {o : Op} {k : V → H → Nat → R}

theorem indexK_ok {Γ : Ctx} (hΓ : ∀ t ti, Γ.ty.get t = some ti → TyOk P t ti) (m : Bool) (t : TypeId) (x i : A) (k : V → R) :
    Ok1 bad (indexK bad Γ m t x i k) k fun v => ∀ ρ u j, AR ρ x u → AR ρ i j → ∀ w, ∃ z, (Instr.indexAt t u j).run P w = .ok z w ∧ VR ρ v z := by
  unfold indexK
  refine (tyK_ok hΓ t _).bind fun ti hti => (idxK_ok i _).bind fun j hj => ?_
  split
  · rename_i b o n c
    refine (elemK_ok hΓ hti _).bind fun te hte => ?_
    obtain ⟨e, hu, hte⟩ := hte
    cases hc : Nat.blt j n with
    | false => exact .inl rfl
    | true =>
      have hc := blt_t hc
      show Ok1 bad (cond true _ bad) k _
      rw [cond_true, strA_eq]
      refine .inr ⟨_, fun ρ u v hx hi w => ?_, rfl⟩
      obtain ⟨kd, rfl⟩ := hj ρ v hi
      cases hx with
      | slice _ _ _ _ o' p hp hn hcm ho =>
        have ho : o' = p.sh + o := ho.resolve_right (by omega)
        subst ho
        refine ⟨.pointer (some ⟨p.blk, p.sh + (o + j * te.size), none⟩), ?_, .at _ _ (.ptr _ _ p hp)⟩
        simp [Instr.indexAt, asIntOf, underlying, hu, hte.run_size, Nat.not_le.2 hc, Addr.add_lit, hc, Nat.add_assoc]
  · rename_i b o n z
    refine (elemK_ok hΓ hti _).bind fun te hte => ?_
    obtain ⟨e, hu, hte⟩ := hte
    cases hc : two (Nat.beq te.size z) (Nat.blt j n) with
    | false => exact .inl rfl
    | true =>
      obtain ⟨hz, hc1⟩ := two_t hc
      have hlt := blt_t hc1
      have hz := Nat.eq_of_beq_eq_true hz
      subst hz
      show Ok1 bad (cond true _ bad) k _
      rw [cond_true, strA_eq]
      refine .inr ⟨_, fun ρ u v hx hi w => ?_, rfl⟩
      obtain ⟨kd, rfl⟩ := hj ρ v hi
      cases hx with
      | slu _ _ _ _ c o' p hp hn hcm ho hs =>
        have ho : o' = p.sh + o := ho.resolve_right (by omega)
        subst ho
        refine ⟨.pointer (some ⟨p.blk, p.sh + (o + j * te.size), none⟩), ?_, .at _ _ (.ptr _ _ p hp)⟩
        simp [Instr.indexAt, asIntOf, underlying, hu, hte.run_size, Nat.not_le.2 hlt, Addr.add_lit, hlt, Nat.add_assoc]
  · rename_i b o
    split
    · rename_i n e hk
      refine (tyK_ok hΓ e _).bind fun te hte => ?_
      cases hc : Nat.blt j n with
      | false => exact .inl rfl
      | true =>
        have hc := blt_t hc
        show Ok1 bad (cond true _ bad) k _
        rw [cond_true, strA_eq]
        refine .inr ⟨_, fun ρ u v hx hi w => ?_, rfl⟩
        obtain ⟨kd, rfl⟩ := hj ρ v hi
        cases hx with
        | ptr _ _ p hp =>
          refine ⟨.pointer (some ⟨p.blk, p.sh + (o + j * te.size), none⟩), ?_, .at _ _ (.ptr _ _ p hp)⟩
          simp [Instr.indexAt, asIntOf, underlying, hti.ar hk, Instr.sureAddr, hte.run_size, Nat.not_le.2 hc, Addr.add_lit, hc, Nat.add_assoc]
    · exact .inl rfl
  · exact .inl rfl
theorem packB_get {l : List UInt8} {i : Nat} {b : UInt8} (h : l[i]? = some b) : packB l / 256 ^ i % 256 = b.toNat := by
  have := packB_sub l i 1
  rw [Nat.pow_one] at this
  rw [← this]
  have e : (l.drop i).take 1 = [b] := by
    rw [List.take_one, List.head?_drop, h]; rfl
  rw [e]
  simp [packB]
theorem indexV_ok {Γ : Ctx} (hΓ : ∀ t ti, Γ.ty.get t = some ti → TyOk P t ti) (m : Bool) (t : TypeId) (x : V) (i : A) (k : V → R) :
    Ok1 bad (indexV bad Γ m t x i k) k fun v => ∀ ρ u j, VR ρ x u → AR ρ i j → ∀ w, ∃ z, (Instr.index t u j).run P w = .ok z w ∧ VR ρ v z := by
  unfold indexV
  refine (tyK_ok hΓ t _).bind fun ti hti => (idxK_ok i _).bind fun j hj => ?_
  split
  · rename_i r
    split
    · rename_i n e hk
      refine (tyK_ok hΓ e _).bind fun te hte => ?_
      cases hc : Nat.blt j n with
      | false => exact .inl rfl
      | true =>
        have hc := blt_t hc
        refine (partK_ok m hte r _ k).mono fun v hv ρ u y hx hi w => ?_
        obtain ⟨kd, rfl⟩ := hj ρ y hi
        cases hx with
        | agg _ cs hr =>
          rcases hv ρ cs hr with ⟨h1, h2, h3⟩ | ⟨h1, z, h2, h3⟩
          · exact ⟨.agg ((cs.drop (j * te.size)).take te.size).toArray, by simp [Instr.index, asIntOf, underlying, hti.ar hk, hte.run_size, hc]; exact run_part hte w (.inl ⟨h1, rfl⟩), h3⟩
          · exact ⟨z, by simp [Instr.index, asIntOf, underlying, hti.ar hk, hte.run_size, hc]; exact run_part hte w (.inr ⟨h1, h2⟩), h3⟩
    · exact .inl rfl
  · rename_i n s
    split
    · rename_i hk
      cases hc : Nat.blt j n with
      | false => exact .inl rfl
      | true =>
        have hc := blt_t hc
        show Ok1 bad (cond true _ bad) k _
        rw [cond_true, natK_eq]
        refine .inr ⟨_, fun ρ u y hx hi w => ?_, rfl⟩
        obtain ⟨kd, rfl⟩ := hj ρ y hi
        cases hx with
        | «at» _ _ hx => cases hx with
          | str x _ _ hn hs =>
            have hlt : j < x.size := by omega
            have hl : j < x.data.size := hlt
            refine ⟨.int .u8 ((x.data[j]).toNat : Nat), ?_, .at _ _ ?_⟩
            · have e : x[j]? = some x.data[j] := by
                rw [getElem?_pos x j hlt]; rfl
              simp [Instr.index, asIntOf, underlying, hti.str hk, e]
            · have e : lo8 (dn8 s j) 1 = (x.data[j]).toNat := by
                rw [lo8_eq, dn8_eq, ← hs, Nat.pow_one]
                exact packB_get (by simp [hl])
              rw [e]
              exact AR.u8 ρ (x.data[j]).toNat_lt
    · exact .inl rfl
  · exact .inl rfl
theorem fieldOf_ok {Γ : Ctx} (hΓ : ∀ t ti, Γ.ty.get t = some ti → TyOk P t ti) (s : TypeId) (f : Nat) (k : Nat → Nat → R) :
    Ok2 bad (fieldOf bad Γ s f k) k fun o t => ∃ F fd, P.underlying s = some (.struct F) ∧ F[f]? = some fd ∧ fd.offset = o ∧ fd.type = t := by
  unfold fieldOf tyK
  split
  · rename_i ti hti
    have hti := hΓ s ti hti
    dsimp only
    split
    · rename_i fs hk
      split
      · rename_i o t hf
        obtain ⟨F, hF, he⟩ := hti.st hk
        refine .inr ⟨o, t, ?_, rfl⟩
        rw [← he] at hf
        simp only [List.getElem?_map, Array.getElem?_toList] at hf
        cases hg : F[f]? with
        | none => rw [hg] at hf; cases hf
        | some fd => rw [hg] at hf; cases hf; exact ⟨F, fd, hF, hg, rfl, rfl⟩
      · exact .inl rfl
    · exact .inl rfl
  · exact .inl rfl
/-- Loads. -/
theorem run_loadVar_ty {t : TypeId} {ti : TI} (hT : TyOk P t ti) {w : World} {p : Addr} {x : Value} (hx : (ti.agg = true ∧ ∃ vs, x = .agg (List.toArray vs) ∧ vs.length = ti.size ∧ ∀ (j : Nat) v, vs[j]? = some v → w.cell? (p.add j) = some v) ∨ (ti.agg = false ∧ w.cell? p = some x)) :
    (loadVar t p).run P w = .ok x w := by
  rcases hx with ⟨h1, vs, rfl, h2, h3⟩ | ⟨h1, h2⟩
  · have := hT.run_agg w
    rw [h1] at this
    have hl := run_loadCells_from (P := P) (w := w) (p := p) ti.size 0 vs #[] h2 (by simpa using h3)
    simp [loadVar, this, hT.run_size, loadCells, hl]
  · have := hT.run_agg w
    rw [h1] at this
    simp [loadVar, this, h2]
theorem Rel.cells {ρ : Plc} {g : Hp} {w : World} {nx b : Nat} {t : TypeId} {r : Rope} {p : Pl} (hr : Rel ρ g nx w) (hb : g b = some (.cells t r)) (hp : ρ b = some p) :
    ∃ arr fr cs, w.heap[p.blk]? = some (.cells arr t fr) ∧ arr.size = p.size ∧ RR ρ r cs ∧ (∀ (i : Nat) (v : Value), cs[i]? = some v → arr[p.sh + i]? = some v) ∧ FrOk fr arr.size := by
  obtain ⟨q, hq, h⟩ := hr.blk b _ hb
  rw [hp] at hq
  cases hq
  exact h
theorem cell_at {w : World} {b o j : Nat} {arr : Array Value} {t : TypeId} {fr : Nat × Nat} {v : Value} (h : w.heap[b]? = some (.cells arr t fr)) (hv : arr[o + j]? = some v) : w.cell? ((⟨b, o, none⟩ : Addr).add j) = some v := by
  rw [Addr.add_lit]
  simp [World.cell?, h, hv]
theorem loadK_ok {Γ : Ctx} (hΓ : ∀ t ti, Γ.ty.get t = some ti → TyOk P t ti) (m : Bool) (t : TypeId) (b o : Nat) (k : V → R) :
    Ok1 bad (loadK bad Γ m h t b o k) k fun v => ∀ ρ w p, Rel ρ h.get nx w → ρ b = some p → ∃ x, (loadVar t ⟨p.blk, p.sh + o, none⟩).run P w = .ok x w ∧ VR ρ v x := by
  unfold loadK
  refine (tyK_ok hΓ t _).bind fun ti hti => ?_
  rcases cellsK_ok (bad := bad) h b (fun _ r => partK bad m ti r o k) with e | ⟨bt, r, hb, e⟩
  · exact .inl e
  · rw [e]
    refine (partK_ok m hti r o k).mono fun v hv ρ w p hr hp => ?_
    obtain ⟨arr, fr, cs, h1, h2, h3, h4, h5⟩ := hr.cells hb hp
    rcases hv ρ cs h3 with ⟨ha, hl, hv⟩ | ⟨ha, x, hx, hv⟩
    · refine ⟨_, run_loadVar_ty hti (.inl ⟨ha, _, rfl, by rw [List.length_take, List.length_drop]; omega, fun j v hj => ?_⟩), hv⟩
      rw [List.getElem?_take] at hj
      split at hj
      · rw [List.getElem?_drop] at hj
        exact cell_at h1 (by rw [Nat.add_assoc]; exact h4 _ _ hj)
      · cases hj
    · refine ⟨x, run_loadVar_ty hti (.inr ⟨ha, ?_⟩), hv⟩
      have := cell_at (j := 0) h1 (by rw [Nat.add_zero]; exact h4 _ _ hx)
      simpa [Addr.add] using this
theorem setK_ok (b : Nat) (bk : Bk) (k : H → R) : Ok1 bad (setK bad h b bk k) k fun h' => ∀ j, h'.get j = if j = b then some bk else h.get j := Tr.get_put 64 h b (some bk) k
theorem newK_ok (m : Bool) (bk : Bk) (k : H → Nat → R) : Ok2 bad (newK bad m h nx bk k) k fun h' nx' => nx' = nx + 1 ∧ ∀ j, h'.get j = if j = nx then some bk else h.get j := by
  unfold newK
  rcases Tr.get_put 64 h nx (some bk) (bad := bad) (fun h => natK m (Nat.succ nx) fun nx => k h nx) with e | ⟨h', hg, e⟩
  · exact .inl e
  · rw [e]
    simp only [natK_eq]
    exact .inr ⟨h', nx + 1, ⟨rfl, hg⟩, rfl⟩
/-- Cells written over others, in memory. -/
theorem mem_over {ρ : Plc} {w : World} {b o nx : Nat} {t : TypeId} {r r' : Rope} {p : Pl} {g g' : Hp} {xs : List Value} (hr : Rel ρ g nx w) (hb : g b = some (.cells t r)) (hp : ρ b = some p) (hfl : fl ≤ b)
    (hx : ∀ v ∈ xs, v.oneCell' = true) (hu : ∀ cs, RR ρ r cs → o + xs.length ≤ cs.length ∧ RR ρ r' (over cs o xs)) (hg : ∀ j, g' j = if j = b then some (.cells t r') else g j) :
    ∃ w', (storeCells ⟨p.blk, p.sh + o, none⟩ xs).run P w = .ok () w' ∧ Stp fl fd ρ g nx w ρ g' nx w' := by
  obtain ⟨arr, fr, cs, h1, h2, h3, h4, h5⟩ := hr.cells hb hp
  obtain ⟨hl, hrr⟩ := hu cs h3
  have hsz : p.sh + cs.length ≤ arr.size ∨ cs = [] := by
    cases hcs : cs with
    | nil => exact .inr rfl
    | cons c cr =>
      left
      have hlast : cs.length - 1 < cs.length := by rw [hcs]; simp
      have := h4 (cs.length - 1) _ (List.getElem?_eq_getElem hlast)
      have := (Array.getElem?_eq_some_iff.1 this).1
      rw [← hcs]; omega
  rcases Nat.eq_zero_or_pos xs.length with hz | hpos
  · have hxs := List.eq_nil_of_length_eq_zero hz
    subst hxs
    refine ⟨w, rfl, stp_set hr hb hp hfl hrr (cs := over cs o []) ?_ h5 h2 h1 (Upd.refl _ w) hg⟩
    have e : over cs o [] = cs := by simp [over]
    rw [e]; exact h4
  · have hle : p.sh + o + 0 + xs.length ≤ arr.size := by
      rcases hsz with h | h
      · omega
      · rw [h] at hl; simp only [List.length_nil] at hl; omega
    obtain ⟨w', arr', e1, e2, e3, e4, e5⟩ := run_storeCells_any (P := P) xs (p.sh + o) 0 arr w h1 h5.no hle hx
    refine ⟨w', e1, stp_set hr hb hp hfl hrr (fun i v hv => ?_) (by rw [e4]; exact h5) (e4.trans h2) e3 e2 hg⟩
    rw [e5]
    unfold over at hv
    by_cases c1 : i < o
    · rw [if_neg (by omega)]
      rw [List.getElem?_append_left (by rw [List.length_take]; omega), List.getElem?_take, if_pos c1] at hv
      exact h4 _ _ hv
    · rw [List.getElem?_append_right (by rw [List.length_take]; omega), List.length_take, Nat.min_eq_left (by omega)] at hv
      by_cases c2 : i - o < xs.length
      · rw [if_pos (by omega)]
        rw [List.getElem?_append_left c2] at hv
        rw [show p.sh + i - (p.sh + o + 0) = i - o by omega]
        exact hv
      · rw [if_neg (by omega)]
        rw [List.getElem?_append_right (by omega), List.getElem?_drop] at hv
        have := h4 _ _ hv
        rwa [show p.sh + (o + xs.length + (i - o - xs.length)) = p.sh + i by omega] at this
theorem storeK_ok {Γ : Ctx} (hΓ : ∀ t ti, Γ.ty.get t = some ti → TyOk P t ti) (m : Bool) (t : TypeId) (b o : Nat) (v : V) (k : H → R) :
    Ok1 bad (storeK bad Γ m fl h t b o v k) k fun h' => ∀ ρ w p x, Rel ρ h.get nx w → ρ b = some p → VR ρ v x → ∃ w', (storeVar t ⟨p.blk, p.sh + o, none⟩ x).run P w = .ok () w' ∧ Stp fl fd ρ h.get nx w ρ h'.get nx w' := by
  unfold storeK
  refine (tyK_ok hΓ t _).bind fun ti hti => (ropeK_ok v _).bind fun q hq => ?_
  rcases cellsK_ok (bad := bad) h b (fun bt r => okK bad (two (Nat.ble fl b) (Nat.beq q.len ti.size)) (r.upd bad m o ti.size q fun r => setK bad h b (.cells bt r) k)) with e | ⟨bt, r, hb, e⟩
  · exact .inl e
  · rw [e]
    cases hc : two (Nat.ble fl b) (Nat.beq q.len ti.size) with
    | false => exact .inl rfl
    | true =>
      obtain ⟨c1, c2⟩ := two_t hc
      have c1 := Nat.le_of_ble_eq_true c1
      have c2 := Nat.eq_of_beq_eq_true c2
      show Ok1 bad (cond true _ bad) k _
      rw [cond_true]
      refine (upd_ok bad m r o ti.size q _).bind fun r' hr' => (setK_ok b _ k).mono fun h' hg ρ w p x hr hp hx => ?_
      have hqx := hq ρ x hx
      have hlen : x.cells.toList.length = ti.size := by rw [← hqx.len, c2]
      obtain ⟨w', e1, e2⟩ := mem_over (P := P) (fl := fl) (fd := fd) hr hb hp c1 hqx.one (fun cs hcs => by
        have := hr' ρ cs _ hcs hqx hlen
        exact ⟨by rw [hlen]; exact this.1, this.2⟩) hg
      refine ⟨w', ?_, e2⟩
      have hsz : x.cells.size = ti.size := by rw [← hlen]; simp
      simp only [storeVar, Sem.run_bind, hti.run_size, Result.andThen_ok, hsz, ne_eq, not_true_eq_false, if_false]
      exact e1
end
end Go.E
