/-
  E, fourteenth text: conversions; every operation; Go's own functions.
-/
import Derived.Test.YtbecokebaikhaaaGreatEmb
namespace Go.E
open Go Go.RowKit Go.V
set_option linter.unusedVariables false
set_option linter.unusedSimpArgs false
section
variable {R : Type} {bad : R} {P : Program} {fl fd : Nat} {env : En} {h : H} {nx : Nat} {o : Op} {k : V → H → Nat → R}
theorem byteTy_ok {Γ : Ctx} (hΓ : ∀ t ti, Γ.ty.get t = some ti → TyOk P t ti) (e : Nat) (x : R) {S : R → Prop} (hx : P.underlying e = some (.int .u8) → Out bad x S) : Out bad (byteTy bad Γ e x) S := by
  unfold byteTy
  unfold tyK
  split
  · rename_i te hte
    dsimp only
    split
    · rename_i kd hk
      refine out_if fun hkd => hx ?_
      have := (hΓ e te hte).int hk
      rwa [kn_inj hkd] at this
    · exact .inl rfl
  · exact .inl rfl
theorem packB_bytes : ∀ (n s : Nat), packB ((List.range n).map fun i => UInt8.ofNat (byteAt s i)) = s % 256 ^ n
  | 0, s => by simp [packB, Nat.mod_one]
  | n + 1, s => by
    rw [List.range_succ_eq_map, List.map_cons, List.map_map]
    have ih := packB_bytes n (s / 256)
    have e : (fun i => UInt8.ofNat (byteAt s i)) ∘ Nat.succ = fun i => UInt8.ofNat (byteAt (s / 256) i) := by
      funext i
      show UInt8.ofNat (byteAt s (i + 1)) = _
      unfold byteAt
      rw [Nat.pow_succ, Nat.mul_comm, Nat.div_div_eq_div_mul]
    rw [e]
    show (UInt8.ofNat (byteAt s 0)).toNat + 256 * packB _ = _
    rw [ih, Nat.pow_succ, Nat.mul_comm (256 ^ n), Nat.mod_mul]
    have : (UInt8.ofNat (byteAt s 0)).toNat = s % 256 := by
      rw [UInt8.toNat_ofNat']
      simp [byteAt]
    rw [this]
theorem fold_push : ∀ (l : List Int) (b : ByteArray), (l.foldl (fun r n => r.push (UInt8.ofNat n.toNat)) b).data.toList = b.data.toList ++ l.map fun n => UInt8.ofNat n.toNat
  | [], b => by simp
  | n :: l, b => by
    rw [List.foldl_cons, fold_push l]
    simp [ByteArray.push]
theorem conv_str {Γ : Ctx} (hΓ : ∀ t ti, Γ.ty.get t = some ti → TyOk P t ti) {src dst : TypeId} {ts : TI} (m : Bool) (hts : TyOk P src ts) (hdst : P.underlying dst = some .string) (x : Operand) {a : A} (ha : ∀ ρ n act, EnvOk ρ n env act → AR ρ a (act.eval x)) (n : Nat)
    (hsl : ∀ ρ u, AR ρ a u → ∃ p c, u = .slice (some p) n c) :
    Out bad (elem3K bad ts.k fun e => byteTy bad Γ e (srcK bad m h a 1 n fun q => match q.bytes with | some (_, s) => natK m s fun s => k (.at (.str n s)) h nx | none => bad)) (OutO P fl fd env h nx (.convert src dst x) k) := by
  unfold elem3K
  split
  · rename_i e hk
    refine byteTy_ok hΓ e _ fun he => (srcK_ok (P := P) (nx := nx) m a 1 n _).out fun q hq => ?_
    split
    · rename_i n' s hb
      rw [natK_eq]
      refine .inr ⟨_, h, nx, fun ρ n2 act w henv hr d ty pos aft g => ?_, rfl⟩
      have hx := ha ρ n2 act henv
      obtain ⟨p, c, hu⟩ := hsl ρ _ hx
      obtain ⟨cs, c1, c2, c3⟩ := hq ρ w _ hr hx
      obtain ⟨rfl, hs⟩ := rope_bytes c1 hb
      rw [length_bcells, Nat.mul_one] at c2
      subst c2
      have hf := c3 w rfl
      rw [hu] at hf
      simp only [Builtin.firstCells, Nat.mul_one] at hf
      have e2 : ((List.range n').map fun i => ((byteAt s i : Nat) : Int)).map (Value.int .u8) = bcells n' s := by simp [bcells]
      have hrun := run_bytesToString (P := P) w p n' c ((List.range n').map fun i => ((byteAt s i : Nat) : Int)) (by rw [e2]; exact hf)
      have hd := fold_push ((List.range n').map fun i => ((byteAt s i : Nat) : Int)) ByteArray.empty
      have hrun2 : (execOp act.eval ⟨d, .convert src dst x, ty, pos, aft, g⟩).run P w = .ok (.value (.string (((List.range n').map fun i => ((byteAt s i : Nat) : Int)).foldl (fun r n => r.push (UInt8.ofNat n.toNat)) ByteArray.empty))) w := by
        simp only [execOp, hu, convert, Sem.run_bind, underlying, run_program, hts.sl hk, hdst, he, Result.andThen_ok, Sem.run_pure, hrun]
      rw [hrun2]
      refine ⟨ρ, .at _ _ (.str _ _ _ ?_ ?_), Stp.refl hr⟩
      · have := congrArg List.length hd
        simp only [Array.length_toList] at this
        show (List.foldl _ _ _ : ByteArray).data.size = n'
        rw [this]
        simp
      · rw [hd]
        have e2 : (ByteArray.empty.data.toList ++ ((List.range n').map fun i => ((byteAt s i : Nat) : Int)).map fun z => UInt8.ofNat z.toNat) = (List.range n').map fun i => UInt8.ofNat (byteAt s i) := by simp
        rw [e2, packB_bytes, Nat.mod_eq_of_lt hs]
    · exact .inl rfl
  · exact .inl rfl
/-- Bytes that a string shares are marked. -/
theorem run_mark {w : World} {b : Nat} {o : Nat} {arr : Array Value} {t : TypeId} {fr : Nat × Nat} (hw : w.heap[b]? = some (.cells arr t fr)) (hf : FrOk fr arr.size) :
    ∃ w' fr', (markStringish ⟨b, o, none⟩).run P w = .ok () w' ∧ Upd b w w' ∧ w'.heap[b]? = some (.cells arr t fr') ∧ FrOk fr' arr.size := by
  have hs : w.shape? b = some (t, arr.size) := by simp [World.shape?, hw]
  refine ⟨w.freeze ⟨b, arr.size, none⟩ 1, (if fr.1 == fr.2 then (arr.size, arr.size + 1) else (min fr.1 arr.size, max fr.2 (arr.size + 1))), ?_, ⟨rfl, rfl, rfl, by simp [World.freeze], fun k hk => ?_⟩, ?_, ?_⟩
  · simp [markStringish, shape, freeze, Sem.run, hs]
  · simp only [World.freeze, Nat.one_ne_zero, if_false, Array.getElem?_modify, if_neg (Ne.symm hk)]
  · simp only [World.freeze, Nat.one_ne_zero, if_false, Array.getElem?_modify, if_true, hw, Option.map_some]
  · unfold FrOk at hf ⊢
    split
    · right; exact Nat.le_refl _
    · rename_i hne
      have hne : ¬ fr.1 = fr.2 := by simpa using hne
      right
      show arr.size ≤ min fr.1 arr.size
      have := hf.resolve_left hne
      omega
theorem conv_ok {Γ : Ctx} (hΓ : ∀ t ti, Γ.ty.get t = some ti → TyOk P t ti) (m : Bool) (src dst : TypeId) (x : Operand) : Out bad (eA bad m env x fun x => convK bad Γ m fl src dst h nx x k) (OutO P fl fd env h nx (.convert src dst x) k) := by
  refine (eA_ok m env x _).out fun a ha => ?_
  unfold convK
  refine (tyK_ok hΓ src _).out fun ts hts => (tyK_ok hΓ dst _).out fun td htd => ?_
  obtain ⟨us, hus, _⟩ := hts.u
  split
  · -- numbers
    rename_i kd hk
    split
    · rename_i k' n
      rw [natK_eq]
      refine PureOk.out fun ρ n' act he w d ty pos aft g => ?_
      have hx := ha ρ n' act he
      generalize hc : act.eval x = z at hx
      cases hx with
      | int _ _ hn =>
        obtain ⟨h1, h2⟩ := cvI_ok k' kd hn
        refine ⟨.int kd (kd.wrap (k'.wrap n)), ?_, .at _ _ (.int' h1 h2)⟩
        simp [execOp, hc, convert, underlying, hus, htd.int hk, Conv.intToInt]
    · exact .inl rfl
  · -- to strings
    rename_i hk
    have hdst := htd.str hk
    split
    · rename_i n s
      refine PureOk.out fun ρ n' act he w d ty pos aft g => ?_
      have hx := ha ρ n' act he
      generalize hc : act.eval x = z at hx
      cases hx with
      | str y _ _ h1 h2 => exact ⟨.string y, by simp [execOp, hc, convert, underlying, hus, hdst], .at _ _ (.str _ _ _ h1 h2)⟩
    · exact conv_str hΓ m hts hdst x ha _ (fun ρ u hu => by cases hu; exact ⟨_, _, rfl⟩)
    · exact conv_str hΓ m hts hdst x ha _ (fun ρ u hu => by cases hu; exact ⟨_, _, rfl⟩)
    · unfold elem3K
      split
      · rename_i e hk2
        refine byteTy_ok hΓ e _ fun he8 => PureOk.out fun ρ n' act he w d ty pos aft g => ?_
        have hx := ha ρ n' act he
        generalize hc : act.eval x = z at hx
        cases hx
        exact ⟨.string .empty, by simp [execOp, hc, convert, underlying, hts.sl hk2, hdst, he8, Conv.bytesToString], .at _ _ (.str _ _ _ rfl rfl)⟩
      · exact .inl rfl
    · exact .inl rfl
  · -- to bytes
    rename_i e hk
    have hdst := htd.sl hk
    refine byteTy_ok hΓ e _ fun he8 => ?_
    split
    · rename_i n s
      refine out_if fun hn => ?_
      have hn := Nat.le_of_ble_eq_true hn
      rcases newK_ok (bad := bad) (h := h) (nx := nx) m (.cells e (.by n s)) (fun h nx' => k (.at (.slu nx 0 n 1)) h nx') with e1 | ⟨h', nx', ⟨rfl, hget⟩, e1⟩
      · exact .inl e1
      · rw [e1]
        refine .inr ⟨_, _, _, fun ρ n' act w he hr d ty pos aft g => ?_, rfl⟩
        have hx := ha ρ n' act he
        generalize hc : act.eval x = z at hx
        cases hx with
        | str y _ _ h1 h2 =>
          subst h1 h2
          have hge := grownCap_ge w y.size 0 e
          have hle := grownCap_le_maxLen w y.size 0 e (Nat.le_trans hn (by decide))
          have hsz : (y.data.map (fun b => Value.int .u8 (b.toNat : Int)) ++ Array.replicate (grownCap w y.size 0 e - y.size) (Value.int .u8 0)).size = grownCap w y.size 0 e := by
            simp only [Array.size_append, Array.size_map, Array.size_replicate]
            show y.size + (grownCap w y.size 0 e - y.size) = _
            omega
          have hcs : y.data.toList.map (fun b => Value.int .u8 (b.toNat : Int)) = bcells y.size (packB y.data.toList) := by
            apply List.ext_getElem?
            intro i
            have hl : y.data.toList.length = y.size := by simp
            rcases Nat.lt_or_ge i y.size with hi | hi
            · have hil : i < y.data.toList.length := by omega
              rw [bcells_get hi, List.getElem?_map, List.getElem?_eq_getElem hil]
              simp only [Option.map_some]
              have e3 : byteAt (packB y.data.toList) i = (y.data.toList[i]).toNat := by
                unfold byteAt
                exact packB_get (List.getElem?_eq_getElem hil)
              rw [e3]
            · rw [List.getElem?_eq_none (by rw [List.length_map]; omega), List.getElem?_eq_none (by rw [length_bcells]; exact hi)]
          generalize harr : (y.data.map (fun b => Value.int .u8 (b.toNat : Int)) ++ Array.replicate (grownCap w y.size 0 e - y.size) (Value.int .u8 0)) = arr at hsz
          have hw0 : (w.drew.alloc (.cells arr e)).heap[w.heap.size]? = some (.cells arr e (0, 0)) := by
            show (w.heap.push _)[w.heap.size]? = _
            simp
          obtain ⟨w', fr', m1, m2, m3, m4⟩ := run_mark (P := P) (o := 0) hw0 (.inl rfl)
          have hheap : w'.heap = w.heap.push (.cells arr e fr') := by
            apply Array.ext_getElem?
            intro i
            rcases Nat.lt_trichotomy i w.heap.size with hi | hi | hi
            · rw [m2.block i (by omega), Array.getElem?_push, if_neg (by omega)]
              show (w.heap.push _)[i]? = _
              rw [Array.getElem?_push, if_neg (by omega)]
            · subst hi; rw [m3]; simp
            · rw [Array.getElem?_eq_none (by rw [m2.size]; simp; omega), Array.getElem?_eq_none (by simp; omega)]
          have hrun : (execOp act.eval ⟨d, .convert src dst x, ty, pos, aft, g⟩).run P w = .ok (.value (.slice (some ⟨w.heap.size, 0, none⟩) y.size (grownCap w y.size 0 e))) w' := by
            have hm : (markStringish ⟨w.heap.size, 0, none⟩).run P (w.drew.alloc (.cells arr e)) = .ok () w' := m1
            simp [execOp, hc, convert, underlying, hus, hdst, he8, Conv.stringToBytes, Question.forced, newRow]
            rw [show (Question.appendCap y.size 0 e).cut (w.tape w.drawn (Question.appendCap y.size 0 e)) = grownCap w y.size 0 e from rfl, harr, hm]
            rfl
          rw [hrun]
          refine ⟨_, .at _ _ ?_, stp_new hr (cs := bcells y.size (packB y.data.toList)) (.bys _ _ ?_) (fun i v hv => ?_) m4 hheap m2.os m2.tape m2.output hget⟩
          · refine .slu nx 0 y.size 1 (grownCap w y.size 0 e) 0 ⟨w.heap.size, 0, arr.size⟩ ?_ hge hle (.inl rfl) (by show 0 + _ * 1 ≤ arr.size; rw [hsz]; omega)
            show (if nx = nx then _ else _) = _
            rw [if_pos rfl]
          · exact packB_lt y.data.toList
          · rw [← hcs] at hv
            rw [← harr]
            have hi := (List.getElem?_eq_some_iff.1 hv).1
            rw [Array.getElem?_append_left (by simpa using hi)]
            simpa using hv
    · rename_i b o n c
      refine out_if fun hcond => ?_
      obtain ⟨hsd, hfl⟩ := two_t hcond
      have hsd := Nat.eq_of_beq_eq_true hsd
      have hfl := Nat.le_of_ble_eq_true hfl
      subst hsd
      refine (cellsK_ok h b _).out fun bt r hb => (setK_ok b _ _).out fun h' hget => .inr ⟨_, _, _, fun ρ n' act w he hr d ty pos aft g => ?_, rfl⟩
      have hx := ha ρ n' act he
      generalize hc : act.eval x = z at hx
      cases hx with
      | slice _ _ _ _ o' p hp hl hcm ho =>
        obtain ⟨arr, fr, cs, c1, c2, c3, c4, c5⟩ := hr.cells hb hp
        obtain ⟨w', fr', m1, m2, m3, m4⟩ := run_mark (P := P) (o := o') c1 c5
        have hrun : (execOp act.eval ⟨d, .convert src src x, ty, pos, aft, g⟩).run P w = .ok (.value (.slice (some ⟨p.blk, o', none⟩) n c)) w' := by
          simp [execOp, hc, convert, underlying, hdst, he8, m1]
        rw [hrun]
        exact ⟨ρ, .at _ _ (.slice _ _ _ _ _ p hp hl hcm ho), stp_set hr hb hp hfl c3 c4 m4 c2 m3 m2 hget⟩
    · rename_i b o n zz
      refine out_if fun hcond => ?_
      obtain ⟨hsd, hfl⟩ := two_t hcond
      have hsd := Nat.eq_of_beq_eq_true hsd
      have hfl := Nat.le_of_ble_eq_true hfl
      subst hsd
      refine (cellsK_ok h b _).out fun bt r hb => (setK_ok b _ _).out fun h' hget => .inr ⟨_, _, _, fun ρ n' act w he hr d ty pos aft g => ?_, rfl⟩
      have hx := ha ρ n' act he
      generalize hc : act.eval x = z at hx
      cases hx with
      | slu _ _ _ _ c o' p hp hl hcm ho hs =>
        obtain ⟨arr, fr, cs, c1, c2, c3, c4, c5⟩ := hr.cells hb hp
        obtain ⟨w', fr', m1, m2, m3, m4⟩ := run_mark (P := P) (o := o') c1 c5
        have hrun : (execOp act.eval ⟨d, .convert src src x, ty, pos, aft, g⟩).run P w = .ok (.value (.slice (some ⟨p.blk, o', none⟩) n c)) w' := by
          simp [execOp, hc, convert, underlying, hdst, he8, m1]
        rw [hrun]
        exact ⟨ρ, .at _ _ (.slu _ _ _ _ _ _ p hp hl hcm ho hs), stp_set hr hb hp hfl c3 c4 m4 c2 m3 m2 hget⟩
    · exact .inl rfl
  · exact .inl rfl
theorem eAs_ok (m : Bool) (env : En) : ∀ (xs : List Operand) (k : List A → R), Ok1 bad (eAs bad m env xs k) k fun vs => vs.length = xs.length ∧ ∀ ρ n a, EnvOk ρ n env a → ∀ (i : Nat) (v : A) (x : Value), vs[i]? = some v → (xs.map a.eval)[i]? = some x → AR ρ v x
  | [], k => .inr ⟨[], ⟨rfl, fun _ _ _ _ i v x h => by simp at h⟩, rfl⟩
  | x :: xs, k => by
    unfold eAs
    refine (eA_ok m env x _).bind fun v hv => (eAs_ok m env xs _).bind fun vs hvs => .inr ⟨_, ⟨by simp [hvs.1], fun ρ n a he i u y h1 h2 => ?_⟩, rfl⟩
    cases i with
    | zero =>
      simp only [List.getElem?_cons_zero, Option.some.injEq, List.map_cons] at h1 h2
      subst h1 h2
      exact hv ρ n a he
    | succ i =>
      simp only [List.getElem?_cons_succ, List.map_cons] at h1 h2
      exact hvs.2 ρ n a he i u y h1 h2
theorem makeFunc_ok (m : Bool) (f : Fn) (fs cs : Array Operand) : Out bad (eAs bad m env fs.toList fun fs => eAs bad m env cs.toList fun cs => k (.at (.fn f fs cs)) h nx) (OutO P fl fd env h nx (.makeFunc f fs cs) k) := by
  refine (eAs_ok m env _ _).out fun us hu => (eAs_ok m env _ _).out fun vs hv => PureOk.out fun ρ n a he w d ty pos aft g => ?_
  refine ⟨.func f (fs.toList.map a.eval).toArray (cs.toList.map a.eval).toArray, ?_, .at _ _ (.fn f us vs _ _ (by simp [hu.1]) (by simp [hv.1]) (hu.2 ρ n a he) (hv.2 ρ n a he))⟩
  simp [execOp, Instr.makeFunc]
  constructor <;> (apply Array.ext'; simp)
theorem opK_ok {Γ : Ctx} (hΓ : ∀ t ti, Γ.ty.get t = some ti → TyOk P t ti) (m : Bool) (o : Op) : Out bad (opK bad Γ m fl o env h nx k) (OutO P fl fd env h nx o k) := by
  unfold opK
  split <;> first
    | exact move_ok _ (.inl rfl) m
    | exact move_ok _ (.inr rfl) m
    | exact pick_ok m _ _ _
    | exact alloc_ok hΓ m _
    | exact box_ok m _ _
    | exact build_ok hΓ m _ _
    | exact buildSlice_ok hΓ m _ _ _
    | exact load_ok hΓ m _ _
    | exact store_ok hΓ m _ _ _
    | exact nilCheck_ok m _
    | exact bin_ok hΓ m _ _ _ _ _
    | exact un_ok m _ _ _
    | exact conv_ok hΓ m _ _ _
    | exact sl2arr_ok hΓ m _ _
    | exact makeFunc_ok m _ _ _
    | exact makeSlice_ok hΓ m _ _ _
    | exact (sliceK_ok hΓ m _ _ _ _ _ _).out fun v hv => hv.out
    | exact fieldAddr_ok hΓ m _ _ _
    | exact field_ok hΓ m _ _ _
    | exact indexAddr_ok hΓ m _ _ _
    | exact index_ok hΓ m _ _ _
    | exact extract_ok m _ _
    | exact makeMap_ok hΓ m _ _
    | exact lookup_ok hΓ m _ _ _ _
    | exact mapSet_ok hΓ m _ _ _ _ (.inl rfl)
    | exact mapSet_ok hΓ m _ _ _ _ (.inr rfl)
    | exact mapEntry_ok hΓ m _ _ _
    | exact entryStore_ok m _ _ _ _
    | exact .inl rfl
end
end Go.E
