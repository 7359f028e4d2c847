/-
  Octets: the reader: Read, made, Err, Left, fail.
-/
import Derived.Test.YtjcafonoiaiacaaOc
import Derived.LaidEql
namespace Go.V
open Go Go.RowKit
set_option linter.unusedSimpArgs false
set_option linter.unusedVariables false
section
variable {P : Program} {n : Nat} {e : Env} {w : World} {Q : Post} {ops : Array Oper} {rest : List Oper} {d : Nat} {ty : TypeId} {pos : String} {aft : Array Edge}
def ptrB (P : Program) (t : TypeId) : Bool := match P.underlying t with | some (.pointer el) => (match P.info? el with | some i => !(Nat.beq i.size 0) | none => false) | _ => false
class PtrTy (P : Program) (t : TypeId) : Prop where
  h : ptrB P t = true
theorem PtrTy.und {t : TypeId} (h : PtrTy P t) : ∃ el i, P.underlying t = some (.pointer el) ∧ P.info? el = some i ∧ i.size ≠ 0 := by
  have h := h.h
  unfold ptrB at h
  split at h
  · rename_i el he
    split at h
    · rename_i i hi
      refine ⟨el, i, he, hi, ?_⟩
      intro h0
      rw [h0] at h
      cases h
    · cases h
  · cases h
theorem run_equalIn_nil (dp : Nat) {t : TypeId} (h : PtrTy P t) (a : Addr) (w : World) : (Op.equalIn (dp + 1) t (.pointer (some a)) (.pointer none)).run P w = .ok false w := by
  obtain ⟨el, i, hu, hi, hs⟩ := h.und
  simp [Op.equalIn, underlying, hu]
theorem run_equalIn_same (dp : Nat) {t : TypeId} (h : PtrTy P t) (a : Addr) (w : World) : (Op.equalIn (dp + 1) t (.pointer (some a)) (.pointer (some a))).run P w = .ok true w := by
  obtain ⟨el, i, hu, hi, hs⟩ := h.und
  simp [Op.equalIn, underlying, hu, sizeOf, typeInfo, hi, hs, run_sameAddr_same]
/-- A pointer against nil. -/
theorem TL.neNilP {t t2 : TypeId} {x y : Operand} {a : Addr} [ht : PtrTy P t] (hx : val e x = some (.pointer (some a))) (hy : val e y = some (.pointer none)) (hd : Nat.blt d n = true)
    (k : TL P n ops rest ((d, .bool true) :: e) w Q) : TL P n ops (⟨some d, .binOp .neq t x y t2, ty, pos, aft, none⟩ :: rest) e w Q :=
  TL.run (fun r hr => by
    have hg : eqGuard .neq t x y (.pointer (some a)) (.pointer none) = Pure.pure () := rfl
    simp only [execOp, hr.eval hx, hr.eval hy, hg]
    simp only [binOp]
    simp [Op.equal, Op.maxDepth, run_equalIn_nil 9999 ht]) hd k
/-- An address against itself. -/
theorem TL.eqSame {t t2 : TypeId} {x y : Operand} {a : Addr} [ht : PtrTy P t] (hx : val e x = some (.pointer (some a))) (hy : val e y = some (.pointer (some a))) (hd : Nat.blt d n = true)
    (k : TL P n ops rest ((d, .bool true) :: e) w Q) : TL P n ops (⟨some d, .binOp .eql t x y t2, ty, pos, aft, none⟩ :: rest) e w Q :=
  TL.run (fun r hr => by
    have hg : eqGuard .eql t x y (.pointer (some a)) (.pointer (some a)) = Pure.pure () := rfl
    simp only [execOp, hr.eval hx, hr.eval hy, hg]
    simp only [binOp]
    simp [Op.equal, Op.maxDepth, run_equalIn_same 9999 ht]) hd k
/-- What waits for an operation that was left out is left out. -/
theorem TL.guard_left {j s : Nat} {want : Bool} {op : Op} (hj : (ops[j]?).bind (·.dst) = some s) (hb : find e s = some undef) (hd : Nat.blt d n = true)
    (hf : TL P n ops rest ((d, undef) :: e) w Q) : TL P n ops (⟨some d, op, ty, pos, aft, some (j, want)⟩ :: rest) e w Q := TL.mk fun a ha => by
  have hy : (yielded ops a.tmps j == some want) = false := by
    have h1 := ha.get s _ hb
    simp only [yielded, hj, Option.bind_some]
    rcases Nat.lt_or_ge s a.tmps.size with h | h
    · have h2 : a.tmps[s]? = some undef := by
        simp [h] at h1
        simp [h, h1]
      rw [h2]
      rfl
    · rw [Array.getElem?_eq_none h]
      rfl
  have hout := hf.out (ha.put hd undef)
  unfold wpList
  simp only [Region.wanted, hy, Bool.false_eq_true, if_false]
  exact hout
end
end Go.V
namespace Go.Proofs.Ytjcafonoiaiacaa
open Go Go.RowKit Go.V
set_option linter.unusedSimpArgs false
set_option linter.unusedVariables false
instance : PtrTy Try.prog 47 := ⟨by kernel_rfl⟩
/-- A reader's cells. -/
def rdr (b : Nat) (a : Option Addr) (n c at' err : Nat) : List Value := [.pointer (some ⟨b, 0, none⟩), .slice a n c, .int .i64 (at' : Int), .int .i64 (err : Int)]
theorem made_c (b : Nat) (a : Option Addr) (n c at' err : Nat) (w : World) (hb : Blk w b 55 (rdr b a n c at' err)) :
    Calls Try.prog 33 #[.pointer (some ⟨b, 0, none⟩)] w (Ret fun v w' => v = .bool true ∧ w = w') := by
  unfold rdr at hb
  refine V.calls (args := [_]) Try.func33 rfl Try.ntmps33 rfl rfl ?_
  repeat (first | (refine TL.isNeT 47 ?_; refine TL.neNilP rfl rfl rfl ?_) | (refine TL.isEqT 47 ?_; refine TL.eqSame rfl rfl rfl ?_) | (refine TL.isGuard ?_; first | refine TL.guard_skip rfl rfl rfl ?_ | refine TL.guard_run rfl rfl rfl ?_ | refine TL.guard_yes rfl rfl yD rfl ?_ | refine TL.guard_no rfl rfl yD rfl ?_) | (refine TL.isMove ?_; first | refine TL.pure rfl rfl ?_) | (refine TL.isAsg ?_; first | refine TL.pure rfl rfl ?_) | (refine TL.isLoad ?_; first | refine TL.load1 rfl yM rfl ?_ | refine TL.loadW rfl yB (by exact rfl) rfl ?_ | refine TL.loadN rfl yB (by exact rfl) (by exact rfl) rfl ?_) | (refine TL.isIndex ?_; first | refine TL.indexArr rfl rfl (by omega) rfl rfl ?_ | refine TL.indexAt rfl rfl (by omega) rfl rfl ?_) | (refine TL.isField ?_; first | refine TL.fieldAddr rfl rfl ?_) | (refine TL.isAdd ?_; first | refine TL.addI rfl rfl (by omega) (by omega) rfl ?_ | refine TL.addU rfl rfl rfl (by omega) rfl ?_ | refine TL.addW rfl rfl rfl rfl ?_ | refine TL.pure rfl rfl ?_) | (refine TL.isSub ?_; first | refine TL.subI rfl rfl (by omega) (by omega) rfl ?_ | refine TL.subU rfl rfl rfl (by omega) (by omega) rfl ?_ | refine TL.pure rfl rfl ?_) | (refine TL.isMul ?_; first | refine TL.mulI rfl rfl (by omega) (by omega) rfl ?_ | refine TL.mulU rfl rfl rfl (by omega) rfl ?_ | refine TL.mulW rfl rfl rfl rfl ?_ | refine TL.pure rfl rfl ?_) | (refine TL.isAnd ?_; first | refine TL.andU rfl rfl rfl rfl (by omega) (by omega) rfl ?_) | refine TL.nil ?_ | refine thenQ_normal ?_ | refine T.seq ?_ | refine T.region ?_ | refine T.block ?_ | refine blockQ_normal ?_ | (refine TL.isOr ?_; first | refine TL.orM rfl rfl rfl rfl rfl (by omega) (by omega) rfl rfl ?_ | refine TL.orMW rfl rfl rfl rfl rfl (by omega) rfl rfl ?_ | refine TL.orL rfl rfl rfl rfl rfl (by omega) rfl rfl ?_) | (refine TL.isShl ?_; first | refine TL.shlU rfl rfl rfl rfl rfl (by omega) rfl ?_ | refine TL.shlW rfl rfl rfl rfl rfl rfl ?_) | (refine TL.isShr ?_; first | refine TL.shrU rfl rfl rfl rfl rfl rfl ?_) | (refine TL.isBin ?_; first | refine TL.pure rfl rfl ?_ | refine TL.eqNil rfl rfl rfl ?_ | refine TL.neNil rfl rfl rfl ?_) | (refine TL.isConv ?_; first | refine TL.convU rfl rfl (by omega) rfl ?_ | refine TL.convI rfl (by omega) (by omega) rfl ?_ | refine TL.convW rfl rfl rfl ?_) | (refine TL.isStore ?_; first | (refine TL.store1 rfl rfl yB (by exact rfl) (by exact rfl) (by exact rfl) ?_; intro w' hu hbk hsz) | (refine TL.storeWh rfl rfl yB (by exact rfl) (by exact rfl) (by exact rfl) ?_; intro w' hu hbk hsz) | (refine TL.storeN rfl rfl yB (by exact rfl) (by exact rfl) (by exact rfl) (by exact rfl) ?_; intro w' hu hbk hsz)) | (refine TL.isBox ?_; first | (refine TL.box rfl rfl rfl ?_; intro bk w' hg hbk hsz hsz')) | (refine TL.isAlloc ?_; first | (refine TL.alloc rfl rfl ?_; intro bk w' hg hbk hsz hsz')) | (refine TL.isSlice ?_; first | refine TL.sliceArr rfl (bnd_lit rfl) (bnd_lit rfl) (by omega) (by omega) (by omega) rfl rfl ?_ | refine TL.sliceArr rfl (bnd_none _) (bnd_lit rfl) (by omega) (by omega) (by omega) rfl rfl ?_ | refine TL.sliceArr rfl (bnd_lit rfl) (bnd_none _) (by omega) (by omega) (by omega) rfl rfl ?_ | refine TL.sliceArr rfl (bnd_none _) (bnd_none _) (by omega) (by omega) (by omega) rfl rfl ?_) | (refine TL.isBuild ?_; first | refine TL.build rfl rfl rfl ?_ | refine TL.buildArr rfl rfl rfl ?_) | (refine TL.isNilC ?_; first | refine TL.nilCheck rfl rfl ?_) | (refine TL.isBuildS ?_; first | (refine TL.buildSlice0 rfl ?_; intro bk w' hg hbk hsz hsz')) | (refine TL.isCall ?_; first | refine TL.len_slice rfl rfl ?_ | refine TL.min2 rfl rfl rfl ?_) | refine T.cond_true rfl ?_ | refine T.cond_false rfl ?_ | refine T.cond_yes rfl yD ?_ | refine T.cond_no rfl yD ?_ | refine T.ret ?_ | refine T.skip ?_ | refine T.exit ?_ | refine thenQ_ret ?_ | refine thenQ_exit ?_ | refine blockQ_hit ?_ | refine blockQ_miss rfl ?_ | refine blockQ_ret ?_ | refine loopQ_ret ?_ | refine loopQ_exit ?_ | refine TL.pure rfl rfl ?_)
  exact ret1 rfl ⟨_, rfl, rfl, rfl⟩
theorem err_c (b : Nat) (a : Option Addr) (n c at' err : Nat) (w : World) (hb : Blk w b 55 (rdr b a n c at' err)) :
    Calls Try.prog 25 #[.pointer (some ⟨b, 0, none⟩)] w (Ret fun v w' => v = .int .i64 (err : Int) ∧ w = w') := by
  refine V.calls (args := [_]) Try.func25 rfl Try.ntmps25 rfl rfl ?_
  have hb2 := hb
  unfold rdr at hb2
  repeat (first | (refine TL.isGuard ?_; first | refine TL.guard_skip rfl rfl rfl ?_ | refine TL.guard_run rfl rfl rfl ?_ | refine TL.guard_yes rfl rfl yD rfl ?_ | refine TL.guard_no rfl rfl yD rfl ?_) | (refine TL.isMove ?_; first | refine TL.pure rfl rfl ?_) | (refine TL.isAsg ?_; first | refine TL.pure rfl rfl ?_) | (refine TL.isLoad ?_; first | refine TL.load1 rfl yM rfl ?_ | refine TL.loadW rfl yB (by exact rfl) rfl ?_ | refine TL.loadN rfl yB (by exact rfl) (by exact rfl) rfl ?_) | (refine TL.isIndex ?_; first | refine TL.indexArr rfl rfl (by omega) rfl rfl ?_ | refine TL.indexAt rfl rfl (by omega) rfl rfl ?_) | (refine TL.isField ?_; first | refine TL.fieldAddr rfl rfl ?_) | (refine TL.isAdd ?_; first | refine TL.addI rfl rfl (by omega) (by omega) rfl ?_ | refine TL.addU rfl rfl rfl (by omega) rfl ?_ | refine TL.addW rfl rfl rfl rfl ?_ | refine TL.pure rfl rfl ?_) | (refine TL.isSub ?_; first | refine TL.subI rfl rfl (by omega) (by omega) rfl ?_ | refine TL.subU rfl rfl rfl (by omega) (by omega) rfl ?_ | refine TL.pure rfl rfl ?_) | (refine TL.isMul ?_; first | refine TL.mulI rfl rfl (by omega) (by omega) rfl ?_ | refine TL.mulU rfl rfl rfl (by omega) rfl ?_ | refine TL.mulW rfl rfl rfl rfl ?_ | refine TL.pure rfl rfl ?_) | (refine TL.isAnd ?_; first | refine TL.andU rfl rfl rfl rfl (by omega) (by omega) rfl ?_) | refine TL.nil ?_ | refine thenQ_normal ?_ | refine T.seq ?_ | refine T.region ?_ | refine T.block ?_ | refine blockQ_normal ?_ | (refine TL.isOr ?_; first | refine TL.orM rfl rfl rfl rfl rfl (by omega) (by omega) rfl rfl ?_ | refine TL.orMW rfl rfl rfl rfl rfl (by omega) rfl rfl ?_ | refine TL.orL rfl rfl rfl rfl rfl (by omega) rfl rfl ?_) | (refine TL.isShl ?_; first | refine TL.shlU rfl rfl rfl rfl rfl (by omega) rfl ?_ | refine TL.shlW rfl rfl rfl rfl rfl rfl ?_) | (refine TL.isShr ?_; first | refine TL.shrU rfl rfl rfl rfl rfl rfl ?_) | (refine TL.isBin ?_; first | refine TL.pure rfl rfl ?_ | refine TL.eqNil rfl rfl rfl ?_ | refine TL.neNil rfl rfl rfl ?_) | (refine TL.isConv ?_; first | refine TL.convU rfl rfl (by omega) rfl ?_ | refine TL.convI rfl (by omega) (by omega) rfl ?_ | refine TL.convW rfl rfl rfl ?_) | (refine TL.isStore ?_; first | (refine TL.store1 rfl rfl yB (by exact rfl) (by exact rfl) (by exact rfl) ?_; intro w' hu hbk hsz) | (refine TL.storeWh rfl rfl yB (by exact rfl) (by exact rfl) (by exact rfl) ?_; intro w' hu hbk hsz) | (refine TL.storeN rfl rfl yB (by exact rfl) (by exact rfl) (by exact rfl) (by exact rfl) ?_; intro w' hu hbk hsz)) | (refine TL.isBox ?_; first | (refine TL.box rfl rfl rfl ?_; intro bk w' hg hbk hsz hsz')) | (refine TL.isAlloc ?_; first | (refine TL.alloc rfl rfl ?_; intro bk w' hg hbk hsz hsz')) | (refine TL.isSlice ?_; first | refine TL.sliceArr rfl (bnd_lit rfl) (bnd_lit rfl) (by omega) (by omega) (by omega) rfl rfl ?_ | refine TL.sliceArr rfl (bnd_none _) (bnd_lit rfl) (by omega) (by omega) (by omega) rfl rfl ?_ | refine TL.sliceArr rfl (bnd_lit rfl) (bnd_none _) (by omega) (by omega) (by omega) rfl rfl ?_ | refine TL.sliceArr rfl (bnd_none _) (bnd_none _) (by omega) (by omega) (by omega) rfl rfl ?_) | (refine TL.isBuild ?_; first | refine TL.build rfl rfl rfl ?_ | refine TL.buildArr rfl rfl rfl ?_) | (refine TL.isNilC ?_; first | refine TL.nilCheck rfl rfl ?_) | (refine TL.isBuildS ?_; first | (refine TL.buildSlice0 rfl ?_; intro bk w' hg hbk hsz hsz')) | (refine TL.isCall ?_; first | refine TL.len_slice rfl rfl ?_ | refine TL.min2 rfl rfl rfl ?_) | refine T.cond_true rfl ?_ | refine T.cond_false rfl ?_ | refine T.cond_yes rfl yD ?_ | refine T.cond_no rfl yD ?_ | refine T.ret ?_ | refine T.skip ?_ | refine T.exit ?_ | refine thenQ_ret ?_ | refine thenQ_exit ?_ | refine blockQ_hit ?_ | refine blockQ_miss rfl ?_ | refine blockQ_ret ?_ | refine loopQ_ret ?_ | refine loopQ_exit ?_ | refine TL.pure rfl rfl ?_ | (refine TL.isFn 33 ?_; refine TL.call rfl (made_c b a n c at' err _ hb) rfl ?_; rintro _ _ ⟨rfl, rfl⟩))
  exact ret1 rfl ⟨_, rfl, rfl, rfl⟩
end Go.Proofs.Ytjcafonoiaiacaa
