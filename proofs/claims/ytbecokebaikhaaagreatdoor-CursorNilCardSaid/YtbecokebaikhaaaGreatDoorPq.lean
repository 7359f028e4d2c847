import Derived.Test.YtbecokebaikhaaaGreatDoorPp
import Derived.Lib.LaidTab
import Derived.Test.YtbecokebaikhaaaGreatDoorPe
set_option linter.unusedSimpArgs false
set_option linter.unusedVariables false
set_option linter.unusedSectionVars false
namespace Go.Proofs.YtbecokebaikhaaaGreatDoor
open Go Go.RowKit Go.V Go.E
set_option maxRecDepth 100000
def tabZ : List Int := [0, 1, 56, 2, 57, 49, 28, 3, 61, 58, 42, 50, 38, 29, 17, 4, 62, 47, 59, 36, 45, 43, 51, 22, 53, 39, 33, 30, 24, 18, 12, 5, 63, 55, 48, 27, 60, 41, 37, 16, 46, 35, 44, 21, 52, 32, 23, 11, 54, 26, 40, 15, 34, 20, 31, 10, 25, 14, 19, 9, 13, 8, 7, 6]
def tabN : Nat := 315684040783403026461198565492879320519372303033823910828724750665742568755751545437592878574175936176031276695822391845783248645128493468529036736594176
noncomputable def h00 (t : TypeId) : H := .nd .lf (some (.cells t (.by 64 tabN))) .lf
theorem tab_bytes : (tabZ.map fun z => Value.int .u8 z) = bcells 64 tabN := by kernel_rfl
theorem rel_laid [LoopTab] {W : World} {name : String} {zs : List Int} (hz : zs = tabZ) (hg : (Tryz.prog).globalNamed name = some 0) (hty : ((Tryz.prog).globals[0]?).map (·.type) = some 257) (h : laidMet Tryz.prog [(name, Lib.tabData .u8 zs)] W) :
    ∃ t, @Rel glI _ (fun b => if b = 0 then some ⟨0, 0, 64⟩ else none) (h00 t).get 1 W := by
  letI := glI
  have hT := Lib.tabIs_of_head hg hty Tryz.underlying257 Tryz.underlying5 (by kernel_rfl) (by kernel_rfl) h
  obtain ⟨arr, t, fr, hb, ha⟩ : ∃ arr t fr, W.heap[0]? = some (.cells arr t fr) ∧ arr = (zs.map fun z => Value.int .u8 z).toArray := by
    unfold Lib.TabIs World.var? at hT
    rw [hg] at hT
    simp only [Option.bind_some] at hT
    split at hT
    · rename_i cs t fr hb
      exact ⟨cs, t, fr, hb, Option.some.inj hT⟩
    · cases hT
  have hfr : fr = (0, 0) := by
    obtain ⟨ps, ⟨g, t', cs, fuel, p, q, hg', _, hv, _, _, rfl⟩, _, hc⟩ := h
    obtain rfl := Option.some.inj (hg.symm.trans hg')
    obtain ⟨⟨c, u, hcu⟩, _⟩ := hc 0 0 (by
      have hcs : cs.size = 64 := by
        have hT : W.var? Tryz.prog name = _ := hT
        rw [hv] at hT
        rw [Option.some.inj hT, hz]; rfl
      rw [hcs]
      refine List.mem_append_left _ (List.mem_append_left _ ?_)
      simp [MemPlace.row])
    rw [hb] at hcu
    cases hcu
    rfl
  subst hfr
  have hlist : arr.toList = bcells 64 tabN := by rw [ha, hz]; exact tab_bytes
  have hsize : arr.size = 64 := by rw [ha, hz]; rfl
  have hget : ∀ b, (h00 t).get b = if b = 0 then some (.cells t (.by 64 tabN)) else none := fun b => by
    unfold h00
    rw [Tr.get_nd]
    split
    · rfl
    · split <;> rfl
  refine ⟨t, fun b p hp => ?_, fun b B hB => ?_, fun b b' p p' h1 h2 _ _ _ => ?_, fun g k hk => ?_⟩
  · split at hp
    · cases hp; rename_i h0; exact ⟨by omega, (Array.getElem?_eq_some_iff.1 hb).1⟩
    · cases hp
  · rw [hget] at hB
    split at hB
    · rename_i h0
      subst h0
      cases hB
      refine ⟨_, rfl, arr, (0, 0), bcells 64 tabN, hb, hsize, .bys 64 tabN (by decide +kernel), fun i v hi => ?_, .inl rfl⟩
      rw [Nat.zero_add, ← Array.getElem?_toList, hlist]; exact hi
    · cases hB
  · rw [hget] at h1 h2
    have a1 : b = 0 := Classical.byContradiction fun h => h1 (if_neg h)
    have a2 : b' = 0 := Classical.byContradiction fun h => h2 (if_neg h)
    omega
  · have : (bif Nat.beq g 0 then some 0 else none) = some k := hk
    cases hg0 : Nat.beq g 0 with
    | true =>
      rw [hg0] at this
      cases this
      cases Nat.eq_of_beq_eq_true hg0
      exact ⟨_, rfl, rfl, rfl⟩
    | false => rw [hg0] at this; cases this
end Go.Proofs.YtbecokebaikhaaaGreatDoor
namespace Go.Proofs.YtbecokebaikhaaaGreatDoor
open Go Go.RowKit Go.V Go.E
set_option maxRecDepth 1000000
attribute [local instance] glI
theorem lives13_run (t : TypeId) : callN false ctx1w true 200 1 1 (.fn 6) [] (h00 t) 1 (fun v _ _ => isT v) = true :=
  S.run_ok conTw_p (fs := [6, 10, 22, 31, 32, 33, 34, 35, 15, 36, 37, 38, 39, 40, 63, 76, 77, 78, 79, 47, 48, 46, 49, 50, 52, 51, 53, 55, 54, 56, 80, 81, 82, 83, 84, 85, 86, 87, 88, 89, 90, 91, 92, 93, 94, 95, 96, 97, 11, 8, 119, 42, 45, 100, 101, 102, 59, 73, 75, 103, 104, 105, 106, 58, 107, 120, 121, 122, 123, 124, 125, 126, 127, 128, 41, 43, 26, 44, 30, 27, 98, 117, 118, 134, 135, 136, 131, 137, 109, 29, 138, 139, 140, 141, 155, 156, 157, 158, 159, 160, 161, 162, 99, 67, 25, 71, 72, 74, 66, 7, 129, 130, 132, 241, 242, 167, 166, 165, 168, 169, 164, 163, 145, 146, 147, 148, 150, 149, 69, 70, 170, 171, 172, 188, 189, 190, 191, 192, 193, 194, 133, 114, 65, 113, 23, 24, 243, 187, 197, 196, 195, 173, 174, 175, 176, 115, 116, 204, 207, 208, 206, 205, 209, 64, 244, 213, 211, 210, 212, 198, 218, 216, 217, 220, 219, 214]) (by kernel_rfl)
theorem rel_small (j i : LoopTab) {ρ : Plc} {h : H} {nx : Nat} {w : World} {t : TypeId} (hr : @Rel _ j ρ h.get nx w) (h0 : h.get 0 = some (.cells t (.by 64 tabN))) : @Rel _ i (fun b => if b = 0 then ρ 0 else none) (h00 t).get 1 w := by
  have hget : ∀ b, (h00 t).get b = if b = 0 then some (.cells t (.by 64 tabN)) else none := fun b => by
    unfold h00
    rw [Tr.get_nd]
    split
    · rfl
    · split <;> rfl
  obtain ⟨p, hp, arr, fr, cs, h1, h2, h3, h4, h5⟩ := @Rel.blk _ j _ _ _ _ hr 0 _ h0
  refine ⟨fun b q hq => ?_, fun b B hB => ?_, fun b b' q q' k1 k2 _ _ _ => ?_, fun g k hk => ?_⟩
  · split at hq
    · rename_i e; subst e; exact ⟨by omega, (@Rel.dom _ j _ _ _ _ hr 0 q hq).2⟩
    · cases hq
  · rw [hget] at hB
    split at hB
    · rename_i e
      subst e
      cases hB
      refine ⟨p, hp, arr, fr, cs, h1, h2, ?_, h4, h5⟩
      cases h3 with
      | bys _ _ hlt => exact .bys _ _ hlt
    · cases hB
  · rw [hget] at k1 k2
    have a1 : b = 0 := Classical.byContradiction fun h => k1 (if_neg h)
    have a2 : b' = 0 := Classical.byContradiction fun h => k2 (if_neg h)
    omega
  · obtain ⟨q, k1, k2, k3⟩ := @Rel.gl _ j _ _ _ _ hr g k hk
    have hk0 : (bif Nat.beq g 0 then some 0 else none) = some k := hk
    cases hg0 : Nat.beq g 0 with
    | true =>
      rw [hg0] at hk0
      cases hk0
      exact ⟨q, k1, k2, k3⟩
    | false => rw [hg0] at hk0; cases hk0
theorem lives13_c [j : LoopTab] {ρ : Plc} {h : H} {nx : Nat} {w : World} {t : TypeId} (hr : Rel ρ h.get nx w) (h0 : h.get 0 = some (.cells t (.by 64 tabN))) : Calls Tryz.prog 6 #[] w (Ret fun x w' => x = .bool true ∧ Grow w w') :=
  (top_gen (P := Tryz.prog) (by kernel_rfl) ctx1w_ok (fi := fiOf Tryz.f6) (by kernel_rfl) (by kernel_rfl) [] [] 200 isT (h00 t) 1 _ w (rel_small j (tabOf ctx1w) hr h0) .nil (lives13_run t)).mono fun e w' ⟨x, h1, ⟨ρ', v, _, h2, h3⟩, hg⟩ => ⟨x, h1, isT_ok h2 h3, hg⟩
end Go.Proofs.YtbecokebaikhaaaGreatDoor
namespace Go.Proofs.YtbecokebaikhaaaGreatDoor
open Go Go.RowKit Go.V Go.E
set_option maxRecDepth 1000000
attribute [local instance] glI
theorem h00_get (t : TypeId) (b : Nat) : (h00 t).get b = if b = 0 then some (.cells t (.by 64 tabN)) else none := by
  unfold h00
  rw [Tr.get_nd]
  split
  · rfl
  · split <;> rfl
noncomputable def conLives : Con := ⟨fun bad vs h _ _ nx k => match vs, h.get 0 with
  | [], some (.cells _ (.by 64 s)) => bif Nat.beq s tabN then k (.at (.bool true)) h nx else bad
  | _, _ => bad⟩
theorem conLives_ok [LoopTab] : ConOk Tryz.prog 6 conLives := by
  intro R bad fl fd hfl vs h nx k
  unfold conLives
  dsimp only
  split
  · rename_i t s h0
    cases hs : Nat.beq s tabN with
    | false => exact .inl rfl
    | true =>
      cases Nat.eq_of_beq_eq_true hs
      refine .inr ⟨_, h, nx, fun ρ w xs c hc hvs hr => ?_, rfl⟩
      cases hc
      cases hvs
      show Res _ _ ((callFunc _ _).run _ w)
      rw [enters_of (fn6)]
      exact Calls.mono (lives13_c hr h0) fun en w' ⟨x, h1, h2, hg⟩ => ⟨x, h1, ρ, by subst h2; exact .at _ _ (.bool _), Stp.ofGrow hr hg⟩
  · exact .inl rfl
noncomputable def conTl : Tr Con := .nd .lf none (.nd .lf none (.nd .lf (some conLives) .lf))
noncomputable def ctxL : Ctx := ⟨tyT, fnT, conTl, wmT⟩
theorem conTl_ok (i : LoopTab) : ∀ f c, conTl.get f = some c → ConOk Tryz.prog f c := fun f c h => Tr.all_get (p := ConOk Tryz.prog) (t := conTl) ⟨trivial, trivial, trivial, trivial, conLives_ok, trivial, trivial⟩ f c h
theorem ctxL_ok : CtxOk Tryz.prog ctxL := ⟨tyT_ok, fnT_ok, conTl_ok⟩
theorem nil_run (t : TypeId) : ((List.range 101).all fun n => callN false ctxL true 100 2 2 (.fn 3) [.at (.slu 1 0 n 1)] (h00 t) 2 (fun v _ _ => isT v)) = true := by kernel_rfl
theorem nil_run0 (t : TypeId) : callN false ctxL true 100 1 1 (.fn 3) [.at .nilSlice] (h00 t) 1 (fun v _ _ => isT v) = true := by kernel_rfl
set_option maxHeartbeats 4000000 in
theorem nil_c (F : Nat → Prop) (a : Option Addr) (n c : Nat) (cs : List Value) (W : World) (hs : Sl F W 1 a n c cs) (hF : ∀ k, F k → k < W.heap.size) (hp : ∀ p, a = some p → p.spot = none ∧ p.block < W.heap.size) (hL : laidMet Tryz.prog Rows.cursorNilRow.laid W) :
    Calls Tryz.prog 3 #[.slice a n c] W (Ret fun x w' => x = .bool true ∧ Grow W w') := by
  letI := tabOf ctxL
  obtain ⟨t, hr⟩ := rel_laid (name := "math/bits.deBruijn64tab") (zs := tabZ) rfl (by kernel_rfl) (by kernel_rfl) hL
  by_cases hn : 100 < n
  · refine V.calls (args := [_]) Tryz.func3 rfl Tryz.ntmps3 rfl rfl ?_
    repeat (first | (refine TL.isGuard ?_; first | refine TL.guard_skip rfl rfl rfl ?_ | refine TL.guard_run rfl rfl rfl ?_ | refine TL.guard_yes rfl rfl yD rfl ?_ | refine TL.guard_no rfl rfl yD rfl ?_) | (refine TL.isMove ?_; first | refine TL.pure rfl rfl ?_) | (refine TL.isAsg ?_; first | refine TL.pure rfl rfl ?_) | (refine TL.isLoad ?_; first | refine TL.load1 rfl yM rfl ?_ | refine TL.loadW rfl yB (by exact rfl) rfl ?_ | refine TL.loadN rfl yB (by exact rfl) (by exact rfl) rfl ?_) | (refine TL.isIndex ?_; first | refine TL.indexArr rfl rfl (by omega) rfl rfl ?_ | refine TL.indexAt rfl rfl (by omega) rfl rfl ?_) | (refine TL.isField ?_; first | refine TL.fieldAddr rfl rfl ?_) | (refine TL.isAdd ?_; first | refine TL.addI rfl rfl (by omega) (by omega) rfl ?_ | refine TL.addU rfl rfl rfl (by omega) rfl ?_ | refine TL.addW rfl rfl rfl rfl ?_ | refine TL.pure rfl rfl ?_) | (refine TL.isSub ?_; first | refine TL.subI rfl rfl (by omega) (by omega) rfl ?_ | refine TL.subU rfl rfl rfl (by omega) (by omega) rfl ?_ | refine TL.pure rfl rfl ?_) | (refine TL.isMul ?_; first | refine TL.mulI rfl rfl (by omega) (by omega) rfl ?_ | refine TL.mulU rfl rfl rfl (by omega) rfl ?_ | refine TL.mulW rfl rfl rfl rfl ?_ | refine TL.pure rfl rfl ?_) | (refine TL.isAnd ?_; first | refine TL.andU rfl rfl rfl rfl (by omega) (by omega) rfl ?_) | refine TL.nil ?_ | refine thenQ_normal ?_ | refine T.seq ?_ | refine T.region ?_ | refine T.block ?_ | refine blockQ_normal ?_ | (refine TL.isOr ?_; first | refine TL.orM rfl rfl rfl rfl rfl (by omega) (by omega) rfl rfl ?_ | refine TL.orMW rfl rfl rfl rfl rfl (by omega) rfl rfl ?_ | refine TL.orL rfl rfl rfl rfl rfl (by omega) rfl rfl ?_) | (refine TL.isShl ?_; first | refine TL.shlU rfl rfl rfl rfl rfl (by omega) rfl ?_ | refine TL.shlW rfl rfl rfl rfl rfl rfl ?_) | (refine TL.isShr ?_; first | refine TL.shrU rfl rfl rfl rfl rfl rfl ?_) | (refine TL.isBin ?_; first | refine TL.pure rfl rfl ?_ | refine TL.eqNil rfl rfl rfl ?_ | refine TL.neNil rfl rfl rfl ?_) | (refine TL.isConv ?_; first | refine TL.convU rfl rfl (by omega) rfl ?_ | refine TL.convI rfl (by omega) (by omega) rfl ?_ | refine TL.convW rfl rfl rfl ?_) | (refine TL.isStore ?_; first | (refine TL.store1 rfl rfl yB (by exact rfl) (by exact rfl) (by exact rfl) ?_; intro w' hu hbk hsz) | (refine TL.storeWh rfl rfl yB (by exact rfl) (by exact rfl) (by exact rfl) ?_; intro w' hu hbk hsz) | (refine TL.storeN rfl rfl yB (by exact rfl) (by exact rfl) (by exact rfl) (by exact rfl) ?_; intro w' hu hbk hsz)) | (refine TL.isBox ?_; first | (refine TL.box rfl rfl rfl ?_; intro bk w' hg hbk hsz hsz')) | (refine TL.isAlloc ?_; first | (refine TL.alloc rfl rfl ?_; intro bk w' hg hbk hsz hsz')) | (refine TL.isSlice ?_; first | refine TL.sliceArr rfl (bnd_lit rfl) (bnd_lit rfl) (by omega) (by omega) (by omega) rfl rfl ?_ | refine TL.sliceArr rfl (bnd_none _) (bnd_lit rfl) (by omega) (by omega) (by omega) rfl rfl ?_ | refine TL.sliceArr rfl (bnd_lit rfl) (bnd_none _) (by omega) (by omega) (by omega) rfl rfl ?_ | refine TL.sliceArr rfl (bnd_none _) (bnd_none _) (by omega) (by omega) (by omega) rfl rfl ?_) | (refine TL.isBuild ?_; first | refine TL.build rfl rfl rfl ?_ | refine TL.buildArr rfl rfl rfl ?_) | (refine TL.isNilC ?_; first | refine TL.nilCheck rfl rfl ?_) | (refine TL.isBuildS ?_; first | (refine TL.buildSlice0 rfl ?_; intro bk w' hg hbk hsz hsz')) | (refine TL.isCall ?_; first | refine TL.len_slice rfl rfl ?_ | refine TL.min2 rfl rfl rfl ?_) | refine T.cond_true rfl ?_ | refine T.cond_false rfl ?_ | refine T.cond_yes rfl yD ?_ | refine T.cond_no rfl yD ?_ | refine T.ret ?_ | refine T.skip ?_ | refine T.exit ?_ | refine thenQ_ret ?_ | refine thenQ_exit ?_ | refine blockQ_hit ?_ | refine blockQ_miss rfl ?_ | refine blockQ_ret ?_ | refine loopQ_ret ?_ | refine loopQ_exit ?_ | refine TL.pure rfl rfl ?_)
    refine TL.call rfl (lives13_c (j := tabOf ctxL) hr rfl) rfl ?_
    rintro _ w1 ⟨rfl, hg1⟩
    repeat (first | (refine TL.isGuard ?_; first | refine TL.guard_skip rfl rfl rfl ?_ | refine TL.guard_run rfl rfl rfl ?_ | refine TL.guard_yes rfl rfl yD rfl ?_ | refine TL.guard_no rfl rfl yD rfl ?_) | (refine TL.isMove ?_; first | refine TL.pure rfl rfl ?_) | (refine TL.isAsg ?_; first | refine TL.pure rfl rfl ?_) | (refine TL.isLoad ?_; first | refine TL.load1 rfl yM rfl ?_ | refine TL.loadW rfl yB (by exact rfl) rfl ?_ | refine TL.loadN rfl yB (by exact rfl) (by exact rfl) rfl ?_) | (refine TL.isIndex ?_; first | refine TL.indexArr rfl rfl (by omega) rfl rfl ?_ | refine TL.indexAt rfl rfl (by omega) rfl rfl ?_) | (refine TL.isField ?_; first | refine TL.fieldAddr rfl rfl ?_) | (refine TL.isAdd ?_; first | refine TL.addI rfl rfl (by omega) (by omega) rfl ?_ | refine TL.addU rfl rfl rfl (by omega) rfl ?_ | refine TL.addW rfl rfl rfl rfl ?_ | refine TL.pure rfl rfl ?_) | (refine TL.isSub ?_; first | refine TL.subI rfl rfl (by omega) (by omega) rfl ?_ | refine TL.subU rfl rfl rfl (by omega) (by omega) rfl ?_ | refine TL.pure rfl rfl ?_) | (refine TL.isMul ?_; first | refine TL.mulI rfl rfl (by omega) (by omega) rfl ?_ | refine TL.mulU rfl rfl rfl (by omega) rfl ?_ | refine TL.mulW rfl rfl rfl rfl ?_ | refine TL.pure rfl rfl ?_) | (refine TL.isAnd ?_; first | refine TL.andU rfl rfl rfl rfl (by omega) (by omega) rfl ?_) | refine TL.nil ?_ | refine thenQ_normal ?_ | refine T.seq ?_ | refine T.region ?_ | refine T.block ?_ | refine blockQ_normal ?_ | (refine TL.isOr ?_; first | refine TL.orM rfl rfl rfl rfl rfl (by omega) (by omega) rfl rfl ?_ | refine TL.orMW rfl rfl rfl rfl rfl (by omega) rfl rfl ?_ | refine TL.orL rfl rfl rfl rfl rfl (by omega) rfl rfl ?_) | (refine TL.isShl ?_; first | refine TL.shlU rfl rfl rfl rfl rfl (by omega) rfl ?_ | refine TL.shlW rfl rfl rfl rfl rfl rfl ?_) | (refine TL.isShr ?_; first | refine TL.shrU rfl rfl rfl rfl rfl rfl ?_) | (refine TL.isBin ?_; first | refine TL.pure rfl rfl ?_ | refine TL.eqNil rfl rfl rfl ?_ | refine TL.neNil rfl rfl rfl ?_) | (refine TL.isConv ?_; first | refine TL.convU rfl rfl (by omega) rfl ?_ | refine TL.convI rfl (by omega) (by omega) rfl ?_ | refine TL.convW rfl rfl rfl ?_) | (refine TL.isStore ?_; first | (refine TL.store1 rfl rfl yB (by exact rfl) (by exact rfl) (by exact rfl) ?_; intro w' hu hbk hsz) | (refine TL.storeWh rfl rfl yB (by exact rfl) (by exact rfl) (by exact rfl) ?_; intro w' hu hbk hsz) | (refine TL.storeN rfl rfl yB (by exact rfl) (by exact rfl) (by exact rfl) (by exact rfl) ?_; intro w' hu hbk hsz)) | (refine TL.isBox ?_; first | (refine TL.box rfl rfl rfl ?_; intro bk w' hg hbk hsz hsz')) | (refine TL.isAlloc ?_; first | (refine TL.alloc rfl rfl ?_; intro bk w' hg hbk hsz hsz')) | (refine TL.isSlice ?_; first | refine TL.sliceArr rfl (bnd_lit rfl) (bnd_lit rfl) (by omega) (by omega) (by omega) rfl rfl ?_ | refine TL.sliceArr rfl (bnd_none _) (bnd_lit rfl) (by omega) (by omega) (by omega) rfl rfl ?_ | refine TL.sliceArr rfl (bnd_lit rfl) (bnd_none _) (by omega) (by omega) (by omega) rfl rfl ?_ | refine TL.sliceArr rfl (bnd_none _) (bnd_none _) (by omega) (by omega) (by omega) rfl rfl ?_) | (refine TL.isBuild ?_; first | refine TL.build rfl rfl rfl ?_ | refine TL.buildArr rfl rfl rfl ?_) | (refine TL.isNilC ?_; first | refine TL.nilCheck rfl rfl ?_) | (refine TL.isBuildS ?_; first | (refine TL.buildSlice0 rfl ?_; intro bk w' hg hbk hsz hsz')) | (refine TL.isCall ?_; first | refine TL.len_slice rfl rfl ?_ | refine TL.min2 rfl rfl rfl ?_) | refine T.cond_true rfl ?_ | refine T.cond_false rfl ?_ | refine T.cond_yes rfl yD ?_ | refine T.cond_no rfl yD ?_ | refine T.ret ?_ | refine T.skip ?_ | refine T.exit ?_ | refine thenQ_ret ?_ | refine thenQ_exit ?_ | refine blockQ_hit ?_ | refine blockQ_miss rfl ?_ | refine blockQ_ret ?_ | refine loopQ_ret ?_ | refine loopQ_exit ?_ | refine TL.pure rfl rfl ?_)
    exact ret1 rfl ⟨_, rfl, rfl, yG⟩
  · cases a with
    | none =>
      cases hs.nil rfl
      have hn0 : n = 0 := by have := hs.cap; omega
      subst hn0
      exact (top_gen (P := Tryz.prog) (by kernel_rfl) ctxL_ok (fi := fiOf Tryz.f3) (by kernel_rfl) (by kernel_rfl) [.at .nilSlice] [.slice none 0 0] 100 isT (h00 t) 1 _ W hr (.cons _ _ _ _ (.at _ _ .nilSlice) .nil) (nil_run0 t)).mono fun e w' ⟨x, h1, ⟨ρ', v, _, h2, h3⟩, hg⟩ => ⟨x, h1, isT_ok h2 h3, hg⟩
    | some p =>
      obtain ⟨p1, p2⟩ := hp p rfl
      obtain ⟨pb, po, ps⟩ := p
      cases p1
      have hr2 : Rel (fun b => if b = 0 then some ⟨0, 0, 64⟩ else if b = 1 then some ⟨pb, po, po + c⟩ else none) (h00 t).get 2 W := by
        refine ⟨fun b q hq => ?_, fun b B hB => ?_, fun b b' q q' k1 k2 _ _ _ => ?_, fun g k hk => ?_⟩
        · split at hq
          · rename_i e; subst e; cases hq; exact ⟨by omega, (hr.dom 0 _ rfl).2⟩
          · split at hq
            · rename_i e; subst e; cases hq; exact ⟨by omega, p2⟩
            · cases hq
        · rw [h00_get] at hB
          split at hB
          · rename_i e
            subst e
            cases hB
            obtain ⟨q, hq, arr, fr, cs, h1, h2, h3, h4, h5⟩ := hr.blk 0 _ rfl
            refine ⟨q, hq, arr, fr, cs, h1, h2, ?_, h4, h5⟩
            cases h3 with
            | bys _ _ hlt => exact .bys _ _ hlt
          · cases hB
        · rw [h00_get] at k1 k2
          have a1 : b = 0 := Classical.byContradiction fun h => k1 (if_neg h)
          have a2 : b' = 0 := Classical.byContradiction fun h => k2 (if_neg h)
          omega
        · obtain ⟨q, k1, k2, k3⟩ := hr.gl g k hk
          have hk0 : (bif Nat.beq g 0 then some 0 else none) = some k := hk
          cases hg0 : Nat.beq g 0 with
          | true =>
            rw [hg0] at hk0
            cases hk0
            exact ⟨q, k1, k2, k3⟩
          | false => rw [hg0] at hk0; cases hk0
      have hrun := List.all_eq_true.1 (nil_run t) n (List.mem_range.2 (by omega))
      exact (top_gen (P := Tryz.prog) (by kernel_rfl) ctxL_ok (fi := fiOf Tryz.f3) (by kernel_rfl) (by kernel_rfl) [.at (.slu 1 0 n 1)] [.slice (some ⟨pb, po, none⟩) n c] 100 isT (h00 t) 2 _ W hr2 (.cons _ _ _ _ (.at _ _ (.slu 1 0 n 1 c po ⟨pb, po, po + c⟩ rfl hs.cap hs.max (.inl rfl) (by show po + c * 1 ≤ po + c; omega))) .nil) hrun).mono fun e w' ⟨x, h1, ⟨ρ', v, _, h2, h3⟩, hg⟩ => ⟨x, h1, isT_ok h2 h3, hg⟩
end Go.Proofs.YtbecokebaikhaaaGreatDoor
