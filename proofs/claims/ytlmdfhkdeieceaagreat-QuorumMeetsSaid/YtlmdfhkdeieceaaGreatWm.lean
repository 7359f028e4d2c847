import Derived.Test.YtlmdfhkdeieceaaGreatWf
import Derived.Test.YtlmdfhkdeieceaaGreatWl
import Derived.Test.YtlmdfhkdeieceaaGreatWe
import Derived.Test.YtlmdfhkdeieceaaGreatWi
set_option linter.all false
set_option maxHeartbeats 16000000
set_option maxRecDepth 100000
namespace Go.E
open Go Go.RowKit Go.V
variable [Gl] [LoopTab]
theorem stp_newG {fl fd : Nat} {ρ : Plc} {g g' : Hp} {nx : Nat} {w w' : World} (h : Rel ρ g nx w) {arr : Array Value} {t : TypeId} {r : Rope} {cs : List Value} (hf : fd ≤ fl)
    (hr:RR ρ r cs) (hc:∀ (i:Nat) (v:Value),cs[i]? = some v→arr[i]? = some v) (hgw:Grow w w') (hw:w'.heap[w.heap.size]? = some (.cells arr t (0,0))) (hg:∀ j,g' j=if j=nx then some (.cells t r) else g j) :
    Stp fl fd ρ g nx w (λ b=>if b=nx then some ⟨w.heap.size,0,arr.size⟩ else ρ b) g' (nx+1) w':=by
  have s1:Stp fl fd ρ g nx w (λ b=>if b=nx then some ⟨w.heap.size,0,arr.size⟩ else ρ b) g' (nx+1) (w.alloc (.cells arr t (0,0))):=stp_new h hr hc (.inl rfl) rfl rfl rfl rfl hg
  have hlt:=(Array.getElem?_eq_some_iff.1 hw).1
  refine s1.trans (Stp.ofGrow s1.rel (Grow.mk ⟨hgw.1.os,hgw.1.tape,hgw.1.output,by simp;omega,λ k hk=>?_⟩)) hf
  have hk:k<w.heap.size+1:=by simpa using hk
  show _=(w.heap.push _)[k]?
  rcases Nat.lt_or_ge k w.heap.size with h1|h1
  . rw [hgw.block k h1,Array.getElem?_push,if_neg (by omega)]
  . have:k=w.heap.size:=by omega
    subst this
    rw [hw];simp
end Go.E
namespace Go.Proofs.YtlmdfhkdeieceaaGreat
open Go Go.RowKit Go.V Go.E
set_option maxRecDepth 20000
noncomputable def conIns [Gl]:Con:=⟨λ bad vs h fl fd nx k=>match tyT.get 47 with
  | none=>bad
  | some te=>match vs with
    | [.at s, .at (.int .i64 i), .at v] => lenA bad v fun m => lenA bad s fun n => okK bad (two (two (isSl s) (isSl v)) (two (Nat.ble (Nat.add n m) 100000) (Nat.ble 1 m))) (
        bif Nat.beq i n then srcK bad true h v te.size m λ q=>appK bad true fl fd h nx 47 te s m q k
        else okK bad (Nat.blt i n) (match s,v with
          | .slu b o _ z, .slice vb vo _ _ => okK bad (two (Nat.beq z te.size) (two (Nat.ble fd b) (not (Nat.beq vb b)))) (
              cellsK bad h vb λ vt vr=>okK bad (not (Gl.byt vt)) (vr.sub bad true vo (Nat.mul m te.size) λ q =>
              cellsK bad h b λ bt r=>okK bad (Nat.beq bt 47) (r.sub bad true o (Nat.mul i z) λ x=>r.sub bad true (Nat.add o (Nat.mul i z)) (Nat.mul (Nat.sub n i) z) λ y =>
                jn true (Nat.mul i z) x q λ xq=>jn true (Nat.mul (Nat.add i m) z) xq y λ r'=>delK bad h b λ h=>newK bad true h nx (.cells 47 r') λ h nx'=>k (.at (.slu nx 0 (Nat.add n m) z)) h nx')))
          | _,_=>bad))
    | _=>bad⟩
theorem TL.sliceE {P : Program} {n : Nat} {e : Env} {w : World} {Q : Post} {ops : Array Oper} {rest : List Oper} {d : Nat} {ty : TypeId} {pos : String} {aft : Array Edge} {t elem size bytes : Nat} {x : Operand} {lo : Operand} {a : Option Addr} {m c l : Nat} [ht : SliceTy P t elem size bytes] (hx : val e x = some (.slice a m c)) (hl : bnd e (some lo) l 0) (b1 : l ≤ m) (b3 : m ≤ c) (hd : Nat.blt d n = true)
    (k:∀ v,TL P n ops rest ((d,v)::e) w Q):TL P n ops (⟨some d,.slice t x (some lo) none none,ty,pos,aft,none⟩::rest) e w Q:=by
  obtain ⟨k1,z1,v1,e1⟩:=hl
  refine TL.run (v:=.slice (if c=l then a else a.map (·.add (l*size))) (m-l) (c-l)) (w':=w) (λ r hr=>?_) hd (k _)
  have:(Instr.sliceBounds true m c (some (r.eval lo)) none none).run P w=.ok (l,m,c) w:=by simp [Instr.sliceBounds,hr.eval v1,run_bound e1 b1]
  simp [execOp,hr.eval hx,Instr.sliceAt,underlying,ht.und,Instr.slice,this,ht.size]
theorem insert_end (w w' : World) (a av : Option Addr) (n c m mc : Nat) (y : Value) (hm : 0 < m) (hnc : n ≤ c) (hrun : (Builtin.append_ #[29, 29] 29 #[.slice a n c, .slice av m mc]).run Tryz.prog w = .ok y w') :
    Calls Tryz.prog 34 #[.slice a n c,.int .i64 (n:Int),.slice av m mc] w (Ret λ x w2=>x=y∧w2=w'):=by
  refine V.calls (args:=[_,_,_]) Tryz.func34 rfl Tryz.ntmps34 rfl rfl ?_
  repeat (first|(refine TL.isGuard ?_;first|refine TL.guard_skip rfl rfl rfl ?_|refine TL.guard_run rfl rfl rfl ?_|refine TL.guard_yes rfl rfl yD rfl ?_|refine TL.guard_no rfl rfl yD rfl ?_)|(refine TL.isMove ?_;first|refine TL.pure rfl rfl ?_)|(refine TL.isAsg ?_;first|refine TL.pure rfl rfl ?_)|(refine TL.isLoad ?_;first|refine TL.load1 rfl yM rfl ?_|refine TL.loadW rfl yB (by exact rfl) rfl ?_|refine TL.loadN rfl yB (by exact rfl) (by exact rfl) rfl ?_)|(refine TL.isIndex ?_;first|refine TL.indexA1 rfl rfl (by first|omega|assumption) rfl ?_|refine TL.indexArr rfl rfl (by omega) rfl rfl ?_|refine TL.indexAt rfl rfl (by omega) rfl rfl ?_)|(refine TL.isField ?_;first|refine TL.fieldAddr rfl rfl ?_)|(refine TL.isAdd ?_;first|refine TL.addN rfl rfl (by first|omega|assumption) rfl ?_|refine TL.addI rfl rfl (by omega) (by omega) rfl ?_|refine TL.addU rfl rfl rfl (by omega) rfl ?_|refine TL.addW rfl rfl rfl rfl ?_|refine TL.pure rfl rfl ?_)|(refine TL.isSub ?_;first|refine TL.subN rfl rfl (by first|omega|assumption) (by first|omega|assumption) rfl ?_|refine TL.subI rfl rfl (by omega) (by omega) rfl ?_|refine TL.subU rfl rfl rfl (by omega) (by omega) rfl ?_|refine TL.pure rfl rfl ?_)|(refine TL.isMul ?_;first|refine TL.mulN rfl rfl (by first|omega|assumption) rfl ?_|refine TL.mulI rfl rfl (by omega) (by omega) rfl ?_|refine TL.mulU rfl rfl rfl (by omega) rfl ?_|refine TL.mulW rfl rfl rfl rfl ?_|refine TL.pure rfl rfl ?_)|(refine TL.isAnd ?_;first|refine TL.andU rfl rfl rfl rfl (by omega) (by omega) rfl ?_)|refine TL.nil ?_|refine thenQ_normal ?_|refine T.seq ?_|refine T.region ?_|refine T.block ?_|refine blockQ_normal ?_|(refine TL.isOr ?_;first|refine TL.orM rfl rfl rfl rfl rfl (by omega) (by omega) rfl rfl ?_|refine TL.orMW rfl rfl rfl rfl rfl (by omega) rfl rfl ?_|refine TL.orL rfl rfl rfl rfl rfl (by omega) rfl rfl ?_)|(refine TL.isShl ?_;first|refine TL.shlN rfl rfl (by first|omega|assumption) (by first|omega|assumption) rfl ?_|refine TL.shlS rfl rfl rfl (by first|(simp only [IntKind.bits];omega)|decide) (by first|omega|assumption) rfl ?_|refine TL.shlU rfl rfl rfl rfl rfl (by omega) rfl ?_|refine TL.shlW rfl rfl rfl rfl rfl rfl ?_)|(refine TL.isShr ?_;first|refine TL.shrS rfl rfl (by first|(simp only [IntKind.bits];omega)|decide) rfl ?_|refine TL.shrU rfl rfl rfl rfl rfl rfl ?_)|(refine TL.isRem ?_;first|refine TL.remU rfl rfl (by omega) rfl ?_)|(refine TL.isQuo ?_;first|refine TL.quoN rfl rfl (by omega) (by first|omega|assumption) rfl ?_|refine TL.quoU rfl rfl rfl (by omega) (by first|omega|assumption) rfl ?_)|(refine TL.isBin ?_;first|refine TL.pureT rfl yD rfl ?_|refine TL.pureF rfl yD rfl ?_|refine TL.pure rfl rfl ?_|refine TL.eqNil rfl rfl rfl ?_|refine TL.neNil rfl rfl rfl ?_)|(refine TL.isConv ?_;first|refine TL.convU rfl rfl (by omega) rfl ?_|refine TL.convN rfl (by first|omega|assumption) rfl ?_|refine TL.convI rfl (by omega) (by omega) rfl ?_|refine TL.convW rfl rfl rfl ?_)|(refine TL.isStore ?_;first|(refine TL.store1 rfl rfl yB (by exact rfl) (by exact rfl) (by exact rfl) ?_;intro w' hu hbk hsz)|(refine TL.storeWh rfl rfl yB (by exact rfl) (by exact rfl) (by exact rfl) ?_;intro w' hu hbk hsz)|(refine TL.storeN rfl rfl yB (by exact rfl) (by exact rfl) (by exact rfl) (by exact rfl) ?_;intro w' hu hbk hsz))|(refine TL.isBox ?_;first|(refine TL.boxA rfl rfl ?_;intro bk w' hg hbk hsz hsz')|(refine TL.box rfl rfl rfl ?_;intro bk w' hg hbk hsz hsz'))|(refine TL.isAlloc ?_;first|(refine TL.alloc rfl rfl ?_;intro bk w' hg hbk hsz hsz'))|(refine TL.isSlice ?_;first|refine TL.sliceArr rfl (bnd_lit rfl) (bnd_lit rfl) (by omega) (by omega) (by omega) rfl rfl ?_|refine TL.sliceArr rfl (bnd_none _) (bnd_lit rfl) (by omega) (by omega) (by omega) rfl rfl ?_|refine TL.sliceArr rfl (bnd_lit rfl) (bnd_none _) (by omega) (by omega) (by omega) rfl rfl ?_|refine TL.sliceArr rfl (bnd_none _) (bnd_none _) (by omega) (by omega) (by omega) rfl rfl ?_)|(refine TL.isBuild ?_;first|refine TL.build rfl rfl rfl ?_|refine TL.buildArr rfl rfl rfl ?_)|(refine TL.isNilC ?_;first|refine TL.nilCheck rfl rfl ?_)|(refine TL.isBuildS ?_;first|(refine TL.buildSlice0 rfl ?_;intro bk w' hg hbk hsz hsz'))|(refine TL.isCall ?_;first|refine TL.len_slice rfl rfl ?_|refine TL.min2 rfl rfl rfl ?_)|refine T.cond_true rfl ?_|refine T.cond_false rfl ?_|refine T.cond_yes rfl yD ?_|refine T.cond_no rfl yD ?_|refine T.ret ?_|refine T.skip ?_|refine T.exit ?_|refine thenQ_ret ?_|refine thenQ_exit ?_|refine blockQ_hit ?_|refine blockQ_miss rfl ?_|refine blockQ_ret ?_|refine loopQ_ret ?_|refine loopQ_exit ?_|refine TL.pure rfl rfl ?_)
  refine TL.sliceE (l:=n) rfl (bnd_some rfl rfl) (Nat.le_refl _) hnc rfl λ v=>?_
  repeat (first|(refine TL.isGuard ?_;first|refine TL.guard_skip rfl rfl rfl ?_|refine TL.guard_run rfl rfl rfl ?_|refine TL.guard_yes rfl rfl yD rfl ?_|refine TL.guard_no rfl rfl yD rfl ?_)|(refine TL.isMove ?_;first|refine TL.pure rfl rfl ?_)|(refine TL.isAsg ?_;first|refine TL.pure rfl rfl ?_)|(refine TL.isLoad ?_;first|refine TL.load1 rfl yM rfl ?_|refine TL.loadW rfl yB (by exact rfl) rfl ?_|refine TL.loadN rfl yB (by exact rfl) (by exact rfl) rfl ?_)|(refine TL.isIndex ?_;first|refine TL.indexA1 rfl rfl (by first|omega|assumption) rfl ?_|refine TL.indexArr rfl rfl (by omega) rfl rfl ?_|refine TL.indexAt rfl rfl (by omega) rfl rfl ?_)|(refine TL.isField ?_;first|refine TL.fieldAddr rfl rfl ?_)|(refine TL.isAdd ?_;first|refine TL.addN rfl rfl (by first|omega|assumption) rfl ?_|refine TL.addI rfl rfl (by omega) (by omega) rfl ?_|refine TL.addU rfl rfl rfl (by omega) rfl ?_|refine TL.addW rfl rfl rfl rfl ?_|refine TL.pure rfl rfl ?_)|(refine TL.isSub ?_;first|refine TL.subN rfl rfl (by first|omega|assumption) (by first|omega|assumption) rfl ?_|refine TL.subI rfl rfl (by omega) (by omega) rfl ?_|refine TL.subU rfl rfl rfl (by omega) (by omega) rfl ?_|refine TL.pure rfl rfl ?_)|(refine TL.isMul ?_;first|refine TL.mulN rfl rfl (by first|omega|assumption) rfl ?_|refine TL.mulI rfl rfl (by omega) (by omega) rfl ?_|refine TL.mulU rfl rfl rfl (by omega) rfl ?_|refine TL.mulW rfl rfl rfl rfl ?_|refine TL.pure rfl rfl ?_)|(refine TL.isAnd ?_;first|refine TL.andU rfl rfl rfl rfl (by omega) (by omega) rfl ?_)|refine TL.nil ?_|refine thenQ_normal ?_|refine T.seq ?_|refine T.region ?_|refine T.block ?_|refine blockQ_normal ?_|(refine TL.isOr ?_;first|refine TL.orM rfl rfl rfl rfl rfl (by omega) (by omega) rfl rfl ?_|refine TL.orMW rfl rfl rfl rfl rfl (by omega) rfl rfl ?_|refine TL.orL rfl rfl rfl rfl rfl (by omega) rfl rfl ?_)|(refine TL.isShl ?_;first|refine TL.shlN rfl rfl (by first|omega|assumption) (by first|omega|assumption) rfl ?_|refine TL.shlS rfl rfl rfl (by first|(simp only [IntKind.bits];omega)|decide) (by first|omega|assumption) rfl ?_|refine TL.shlU rfl rfl rfl rfl rfl (by omega) rfl ?_|refine TL.shlW rfl rfl rfl rfl rfl rfl ?_)|(refine TL.isShr ?_;first|refine TL.shrS rfl rfl (by first|(simp only [IntKind.bits];omega)|decide) rfl ?_|refine TL.shrU rfl rfl rfl rfl rfl rfl ?_)|(refine TL.isRem ?_;first|refine TL.remU rfl rfl (by omega) rfl ?_)|(refine TL.isQuo ?_;first|refine TL.quoN rfl rfl (by omega) (by first|omega|assumption) rfl ?_|refine TL.quoU rfl rfl rfl (by omega) (by first|omega|assumption) rfl ?_)|(refine TL.isBin ?_;first|refine TL.pureT rfl yD rfl ?_|refine TL.pureF rfl yD rfl ?_|refine TL.pure rfl rfl ?_|refine TL.eqNil rfl rfl rfl ?_|refine TL.neNil rfl rfl rfl ?_)|(refine TL.isConv ?_;first|refine TL.convU rfl rfl (by omega) rfl ?_|refine TL.convN rfl (by first|omega|assumption) rfl ?_|refine TL.convI rfl (by omega) (by omega) rfl ?_|refine TL.convW rfl rfl rfl ?_)|(refine TL.isStore ?_;first|(refine TL.store1 rfl rfl yB (by exact rfl) (by exact rfl) (by exact rfl) ?_;intro w' hu hbk hsz)|(refine TL.storeWh rfl rfl yB (by exact rfl) (by exact rfl) (by exact rfl) ?_;intro w' hu hbk hsz)|(refine TL.storeN rfl rfl yB (by exact rfl) (by exact rfl) (by exact rfl) (by exact rfl) ?_;intro w' hu hbk hsz))|(refine TL.isBox ?_;first|(refine TL.boxA rfl rfl ?_;intro bk w' hg hbk hsz hsz')|(refine TL.box rfl rfl rfl ?_;intro bk w' hg hbk hsz hsz'))|(refine TL.isAlloc ?_;first|(refine TL.alloc rfl rfl ?_;intro bk w' hg hbk hsz hsz'))|(refine TL.isSlice ?_;first|refine TL.sliceArr rfl (bnd_lit rfl) (bnd_lit rfl) (by omega) (by omega) (by omega) rfl rfl ?_|refine TL.sliceArr rfl (bnd_none _) (bnd_lit rfl) (by omega) (by omega) (by omega) rfl rfl ?_|refine TL.sliceArr rfl (bnd_lit rfl) (bnd_none _) (by omega) (by omega) (by omega) rfl rfl ?_|refine TL.sliceArr rfl (bnd_none _) (bnd_none _) (by omega) (by omega) (by omega) rfl rfl ?_)|(refine TL.isBuild ?_;first|refine TL.build rfl rfl rfl ?_|refine TL.buildArr rfl rfl rfl ?_)|(refine TL.isNilC ?_;first|refine TL.nilCheck rfl rfl ?_)|(refine TL.isBuildS ?_;first|(refine TL.buildSlice0 rfl ?_;intro bk w' hg hbk hsz hsz'))|(refine TL.isCall ?_;first|refine TL.len_slice rfl rfl ?_|refine TL.min2 rfl rfl rfl ?_)|refine T.cond_true rfl ?_|refine T.cond_false rfl ?_|refine T.cond_yes rfl yD ?_|refine T.cond_no rfl yD ?_|refine T.ret ?_|refine T.skip ?_|refine T.exit ?_|refine thenQ_ret ?_|refine thenQ_exit ?_|refine blockQ_hit ?_|refine blockQ_miss rfl ?_|refine blockQ_ret ?_|refine loopQ_ret ?_|refine loopQ_exit ?_|refine TL.pure rfl rfl ?_)
  refine TL.appRun rfl rfl hrun rfl ?_
  repeat (first|(refine TL.isGuard ?_;first|refine TL.guard_skip rfl rfl rfl ?_|refine TL.guard_run rfl rfl rfl ?_|refine TL.guard_yes rfl rfl yD rfl ?_|refine TL.guard_no rfl rfl yD rfl ?_)|(refine TL.isMove ?_;first|refine TL.pure rfl rfl ?_)|(refine TL.isAsg ?_;first|refine TL.pure rfl rfl ?_)|(refine TL.isLoad ?_;first|refine TL.load1 rfl yM rfl ?_|refine TL.loadW rfl yB (by exact rfl) rfl ?_|refine TL.loadN rfl yB (by exact rfl) (by exact rfl) rfl ?_)|(refine TL.isIndex ?_;first|refine TL.indexA1 rfl rfl (by first|omega|assumption) rfl ?_|refine TL.indexArr rfl rfl (by omega) rfl rfl ?_|refine TL.indexAt rfl rfl (by omega) rfl rfl ?_)|(refine TL.isField ?_;first|refine TL.fieldAddr rfl rfl ?_)|(refine TL.isAdd ?_;first|refine TL.addN rfl rfl (by first|omega|assumption) rfl ?_|refine TL.addI rfl rfl (by omega) (by omega) rfl ?_|refine TL.addU rfl rfl rfl (by omega) rfl ?_|refine TL.addW rfl rfl rfl rfl ?_|refine TL.pure rfl rfl ?_)|(refine TL.isSub ?_;first|refine TL.subN rfl rfl (by first|omega|assumption) (by first|omega|assumption) rfl ?_|refine TL.subI rfl rfl (by omega) (by omega) rfl ?_|refine TL.subU rfl rfl rfl (by omega) (by omega) rfl ?_|refine TL.pure rfl rfl ?_)|(refine TL.isMul ?_;first|refine TL.mulN rfl rfl (by first|omega|assumption) rfl ?_|refine TL.mulI rfl rfl (by omega) (by omega) rfl ?_|refine TL.mulU rfl rfl rfl (by omega) rfl ?_|refine TL.mulW rfl rfl rfl rfl ?_|refine TL.pure rfl rfl ?_)|(refine TL.isAnd ?_;first|refine TL.andU rfl rfl rfl rfl (by omega) (by omega) rfl ?_)|refine TL.nil ?_|refine thenQ_normal ?_|refine T.seq ?_|refine T.region ?_|refine T.block ?_|refine blockQ_normal ?_|(refine TL.isOr ?_;first|refine TL.orM rfl rfl rfl rfl rfl (by omega) (by omega) rfl rfl ?_|refine TL.orMW rfl rfl rfl rfl rfl (by omega) rfl rfl ?_|refine TL.orL rfl rfl rfl rfl rfl (by omega) rfl rfl ?_)|(refine TL.isShl ?_;first|refine TL.shlN rfl rfl (by first|omega|assumption) (by first|omega|assumption) rfl ?_|refine TL.shlS rfl rfl rfl (by first|(simp only [IntKind.bits];omega)|decide) (by first|omega|assumption) rfl ?_|refine TL.shlU rfl rfl rfl rfl rfl (by omega) rfl ?_|refine TL.shlW rfl rfl rfl rfl rfl rfl ?_)|(refine TL.isShr ?_;first|refine TL.shrS rfl rfl (by first|(simp only [IntKind.bits];omega)|decide) rfl ?_|refine TL.shrU rfl rfl rfl rfl rfl rfl ?_)|(refine TL.isRem ?_;first|refine TL.remU rfl rfl (by omega) rfl ?_)|(refine TL.isQuo ?_;first|refine TL.quoN rfl rfl (by omega) (by first|omega|assumption) rfl ?_|refine TL.quoU rfl rfl rfl (by omega) (by first|omega|assumption) rfl ?_)|(refine TL.isBin ?_;first|refine TL.pureT rfl yD rfl ?_|refine TL.pureF rfl yD rfl ?_|refine TL.pure rfl rfl ?_|refine TL.eqNil rfl rfl rfl ?_|refine TL.neNil rfl rfl rfl ?_)|(refine TL.isConv ?_;first|refine TL.convU rfl rfl (by omega) rfl ?_|refine TL.convN rfl (by first|omega|assumption) rfl ?_|refine TL.convI rfl (by omega) (by omega) rfl ?_|refine TL.convW rfl rfl rfl ?_)|(refine TL.isStore ?_;first|(refine TL.store1 rfl rfl yB (by exact rfl) (by exact rfl) (by exact rfl) ?_;intro w' hu hbk hsz)|(refine TL.storeWh rfl rfl yB (by exact rfl) (by exact rfl) (by exact rfl) ?_;intro w' hu hbk hsz)|(refine TL.storeN rfl rfl yB (by exact rfl) (by exact rfl) (by exact rfl) (by exact rfl) ?_;intro w' hu hbk hsz))|(refine TL.isBox ?_;first|(refine TL.boxA rfl rfl ?_;intro bk w' hg hbk hsz hsz')|(refine TL.box rfl rfl rfl ?_;intro bk w' hg hbk hsz hsz'))|(refine TL.isAlloc ?_;first|(refine TL.alloc rfl rfl ?_;intro bk w' hg hbk hsz hsz'))|(refine TL.isSlice ?_;first|refine TL.sliceArr rfl (bnd_lit rfl) (bnd_lit rfl) (by omega) (by omega) (by omega) rfl rfl ?_|refine TL.sliceArr rfl (bnd_none _) (bnd_lit rfl) (by omega) (by omega) (by omega) rfl rfl ?_|refine TL.sliceArr rfl (bnd_lit rfl) (bnd_none _) (by omega) (by omega) (by omega) rfl rfl ?_|refine TL.sliceArr rfl (bnd_none _) (bnd_none _) (by omega) (by omega) (by omega) rfl rfl ?_)|(refine TL.isBuild ?_;first|refine TL.build rfl rfl rfl ?_|refine TL.buildArr rfl rfl rfl ?_)|(refine TL.isNilC ?_;first|refine TL.nilCheck rfl rfl ?_)|(refine TL.isBuildS ?_;first|(refine TL.buildSlice0 rfl ?_;intro bk w' hg hbk hsz hsz'))|(refine TL.isCall ?_;first|refine TL.len_slice rfl rfl ?_|refine TL.min2 rfl rfl rfl ?_)|refine T.cond_true rfl ?_|refine T.cond_false rfl ?_|refine T.cond_yes rfl yD ?_|refine T.cond_no rfl yD ?_|refine T.ret ?_|refine T.skip ?_|refine T.exit ?_|refine thenQ_ret ?_|refine thenQ_exit ?_|refine blockQ_hit ?_|refine blockQ_miss rfl ?_|refine blockQ_ret ?_|refine loopQ_ret ?_|refine loopQ_exit ?_|refine TL.pure rfl rfl ?_)
  exact ret1 rfl ⟨_,rfl,rfl,rfl⟩
theorem te_vote:(tyT.get 47).map (λ te=>(te.size,te.bytes))=some (132,160):=by kernel_rfl
theorem ti_int:(tyT.get 3).map (λ te=>te.k)=some (.int .i64):=by kernel_rfl
theorem vrs3 [Gl] [LoopTab] {ρ : Plc} {a b c:V} {xs:List Value} (h:VRs ρ [a,b,c] xs):∃ x y z,xs=[x,y,z]∧VR ρ a x∧VR ρ b y∧VR ρ c z:=by
  cases h with
  | cons _ x _ ys h1 h2 =>
    obtain ⟨y,z,rfl,h3,h4⟩:=h2.two
    exact ⟨x,y,z,rfl,h1,h3,h4⟩
theorem isSl_ok [Gl] [LoopTab] {ρ : Plc} {a:A} {x:Value} {n:Nat} {w:World} (ha:AR ρ a x) (hs:isSl a=true) (hl:(Builtin.lenOf x).run Tryz.prog w=.ok n w):∃ b c,x=.slice b n c∧n≤c:=by
  have key:∀ (b:Option Addr) (l c:Nat),x=.slice b l c→l≤c→∃ b c,x=.slice b n c∧n≤c:=λ b l c e hc=>by
    subst e
    have:l=n:=by simpa [Builtin.lenOf] using hl
    subst this
    exact ⟨b,c,rfl,hc⟩
  cases ha<;>first
    | (cases hs;done)
    | exact key _ _ _ rfl (by assumption)
    | exact key _ _ _ rfl (Nat.le_refl _)
theorem conIns_ok [Gl] [LoopTab]:ConOk Tryz.prog 34 conIns:=by
  intro R bad fl fd hfl vs h nx k
  have hF:Go.E.FnOk Tryz.prog 34 (fiOf Tryz.f34):=fnT_ok _ _ (by kernel_rfl)
  unfold conIns
  dsimp only
  have hsz:=te_vote
  split
  . exact .inl rfl
  rename_i te hte
  rw [hte] at hsz
  simp only [Option.map_some,Option.some.injEq,Prod.mk.injEq] at hsz
  obtain ⟨hz,hby⟩:=hsz
  have hT:=tyT_ok _ _ hte
  have hu:Tryz.prog.underlying 29=some (.slice 47):=(inferInstance:SliceTy Tryz.prog 29 47 132 160).und
  split
  . rename_i s i v
    refine (lenA_ok (P:=Tryz.prog) v _).out λ m hm=>(lenA_ok (P:=Tryz.prog) s _).out λ n hn=>out_if λ hc=>?_
    obtain ⟨hss,hc⟩:=two_t hc
    obtain ⟨hs1,hs2⟩:=two_t hss
    obtain ⟨hfit,h1m⟩:=two_t hc
    have hfit:n+m≤100000:=Nat.le_of_ble_eq_true hfit
    have h1m:1≤m:=Nat.le_of_ble_eq_true h1m
    have args:∀ ρ xs,VRs ρ [.at s,.at (.int .i64 i),.at v] xs→i≤100000→∃ x y,xs=[x,.int .i64 (i:Int),y]∧AR ρ s x∧AR ρ v y:=λ ρ xs hv hi=>by
      obtain ⟨x,j,y,rfl,h1,h2,h3⟩:=vrs3 hv
      refine ⟨x,y,?_,h1.atom,h3.atom⟩
      have h2:=h2.atom
      cases h2 with
      | int _ _ hlt=>rw [wrap_lo (k:=.i64) (show i<9223372036854775808 by omega)]
    cases hin:Nat.beq i n with
    | true =>
      have hin:=Nat.eq_of_beq_eq_true hin
      subst hin
      rw [cond_true]
      refine (srcK_ok (P:=Tryz.prog) (nx:=nx) true v te.size m _).out λ q hq=>?_
      rcases appK_ok (P:=Tryz.prog) (bad:=bad) (h:=h) (nx:=nx) true (t:=29) (t2:=29) (e:=47) (te:=te) hfl s m q k with e1|⟨r,h',nx',hok,e1⟩
      . exact .inl e1
      . refine .inr ⟨r,h',nx',λ ρ w xs g hg hvs hr=>?_,e1⟩
        cases hg
        show Res Tryz.prog _ ((callFunc 34 xs.toArray).run Tryz.prog w)
        rw [enters_of hF]
        obtain ⟨x,y,rfl,hx,hy⟩:=args ρ xs hvs (by omega)
        obtain ⟨cs,c1,c2,c3⟩:=hq ρ w y hr hy
        obtain ⟨z,ρ',w',g1,g2,g3⟩:=hok ρ w x y 29 hx hr (src_x hu hT hu rfl ⟨hm ρ y hy w,cs,c1,c2,c3⟩)
        obtain ⟨xa,xc,rfl,hxc⟩:=isSl_ok hx hs1 (hn ρ x hx w)
        obtain ⟨ya,yc,rfl,hyc⟩:=isSl_ok hy hs2 (hm ρ y hy w)
        exact Calls.mono (insert_end w w' xa ya i xc m yc z h1m hxc g1) λ en w2 ⟨x,e2,e3,e4⟩=>⟨x,e2,ρ',by rw [e3];exact g2,by rw [e4];exact g3⟩
    | false =>
      rw [cond_false]
      refine out_if λ hlt=>?_
      have hlt:i<n:=blt_t hlt
      split
      . rename_i b o ln z vb vo lm mc
        refine out_if λ hc=>?_
        obtain ⟨hzz,hc⟩:=two_t hc
        obtain ⟨hfd,hne⟩:=two_t hc
        have hzz:=Nat.eq_of_beq_eq_true hzz
        have hfd:=Nat.le_of_ble_eq_true hfd
        have hne:vb≠b:=λ e=>by subst e;rw [Nat.beq_refl] at hne;cases hne
        subst hzz
        rcases cellsK_ok (bad := bad) h vb (fun vt vr => okK bad (not (Gl.byt vt)) (vr.sub bad true vo (Nat.mul m te.size) fun q =>
              cellsK bad h b λ bt r=>okK bad (Nat.beq bt 47) (r.sub bad true o (Nat.mul i te.size) λ x=>r.sub bad true (Nat.add o (Nat.mul i te.size)) (Nat.mul (Nat.sub n i) te.size) λ y =>
                jn true (Nat.mul i te.size) x q λ xq=>jn true (Nat.mul (Nat.add i m) te.size) xq y λ r'=>delK bad h b λ h=>newK bad true h nx (.cells 47 r') λ h nx'=>k (.at (.slu nx 0 (Nat.add n m) te.size)) h nx'))) with e1|⟨vt,vr,hvb,e1⟩
        . exact .inl e1
        rw [e1]
        refine out_if λ hbyt=>(sub_ok bad true vr _ _ _).out λ q hq=>?_
        rcases cellsK_ok (bad := bad) h b (fun bt r => okK bad (Nat.beq bt 47) (r.sub bad true o (Nat.mul i te.size) fun x => r.sub bad true (Nat.add o (Nat.mul i te.size)) (Nat.mul (Nat.sub n i) te.size) fun y =>
                jn true (Nat.mul i te.size) x q λ xq=>jn true (Nat.mul (Nat.add i m) te.size) xq y λ r'=>delK bad h b λ h=>newK bad true h nx (.cells 47 r') λ h nx'=>k (.at (.slu nx 0 (Nat.add n m) te.size)) h nx')) with e1|⟨bt,r,hb,e1⟩
        . exact .inl e1
        rw [e1]
        refine out_if λ hbt=>?_
        have hbt:=Nat.eq_of_beq_eq_true hbt
        subst hbt
        refine (sub_ok bad true r _ _ _).out λ x1 hx1=>(sub_ok bad true r _ _ _).out λ y1 hy1=>?_
        obtain ⟨xq,hj1,hjr1⟩:=jn_ok true (Nat.mul i te.size) x1 q (λ xq=>jn true (Nat.mul (Nat.add i m) te.size) xq y1 λ r'=>delK bad h b λ h=>newK bad true h nx (.cells 47 r') λ h nx'=>k (.at (.slu nx 0 (Nat.add n m) te.size)) h nx')
        rw [hj1]
        obtain ⟨r',hj2,hjr2⟩:=jn_ok true (Nat.mul (Nat.add i m) te.size) xq y1 (λ r'=>delK bad h b λ h=>newK bad true h nx (.cells 47 r') λ h nx'=>k (.at (.slu nx 0 (Nat.add n m) te.size)) h nx')
        rw [hj2]
        refine (delK_ok b _).out λ h1 hg1=>?_
        rcases newK_ok (bad:=bad) (h:=h1) (nx:=nx) true (.cells 47 r') (λ h nx'=>k (.at (.slu nx 0 (Nat.add n m) te.size)) h nx') with e2|⟨h',nx',⟨rfl,hget⟩,e2⟩
        . exact .inl e2
        rw [e2]
        refine .inr ⟨_,_,_,λ ρ w xs g hg hvs hr=>?_,rfl⟩
        cases hg
        show Res Tryz.prog _ ((callFunc 34 xs.toArray).run Tryz.prog w)
        rw [enters_of hF]
        obtain ⟨x,y,rfl,hx,hy⟩:=args ρ xs hvs (by omega)
        have hnx:=hn ρ x hx w
        have hmy:=hm ρ y hy w
        cases hx with
        | slu _ _ _ _ c o' p hp hl hcm ho hs =>
        cases hy with
        | slice _ _ _ _ vo' pv hpv hvl hvcm hvo =>
        have hln:ln=n:=by simpa [Builtin.lenOf] using hnx
        have hlm:lm=m:=by simpa [Builtin.lenOf] using hmy
        subst hln hlm
        have ho:o'=p.sh+o:=ho.resolve_right (by omega)
        have hvo:vo'=pv.sh+vo:=hvo.resolve_right (by omega)
        subst ho hvo
        obtain ⟨arr,fr,cs0,c1,c2,c3,c4,c5⟩:=hr.cells hb hp
        obtain ⟨varr,vfr,vcs,v1,v2,v3,v4,v5⟩:=hr.cells hvb hpv
        obtain ⟨d1,d2⟩:=hx1 ρ cs0 c3
        obtain ⟨d3,d4⟩:=hy1 ρ cs0 c3
        obtain ⟨d5,d6⟩:=hq ρ vcs v3
        rw [hz] at d1 d2 d3 d4 d5 d6 hs
        simp only [Nat.mul_eq,Nat.add_eq,Nat.sub_eq] at d1 d2 d3 d4 d5 d6
        obtain ⟨X,hX⟩:∃ X,(cs0.drop o).take (i*132)=X:=⟨_,rfl⟩
        obtain ⟨Y,hY⟩:∃ Y,(cs0.drop (o+i*132)).take ((ln-i)*132)=Y:=⟨_,rfl⟩
        obtain ⟨Z,hZ⟩:∃ Z,(vcs.drop vo).take (lm*132)=Z:=⟨_,rfl⟩
        have lX:X.length=i*132:=by rw [← hX,List.length_take,List.length_drop];omega
        have lY:Y.length=(ln-i)*132:=by rw [← hY,List.length_take,List.length_drop];omega
        have lZ:Z.length=lm*132:=by rw [← hZ,List.length_take,List.length_drop];omega
        rw [hX] at d2;rw [hY] at d4;rw [hZ] at d6
        have hrr:RR ρ r' (X++Z++Y):=by
          refine hjr2 ρ _ _ (hjr1 ρ _ _ d2 d6 (by rw [lX,hz];rfl)) d4 ?_
          rw [List.length_append,lX,lZ,hz]
          show _=(i+lm)*132
          omega
        have hsz:arr.size=p.size:=c2
        have hvbf:vfr.1=vfr.2:=by
          rcases v5 with v5|⟨_,v5⟩
          . exact v5
          . rw [v5] at hbyt;cases hbyt
        have hblk:pv.blk≠p.blk:=λ e=>hne (hr.inj vb b pv p (by rw [hvb];simp) (by rw [hb];simp) hpv hp e)
        have hcXY:∀ (j:Nat) (v:Value),(X++Y)[j]? = some v→arr[p.sh+o+j]? = some v:=λ j v hj=>by
          rw [Nat.add_assoc]
          refine c4 _ _ ?_
          rcases Nat.lt_or_ge j (i*132) with h3|h3
          . rw [List.getElem?_append_left (by omega),← hX,List.getElem?_take,if_pos h3,List.getElem?_drop] at hj
            exact hj
          . have hj':=(List.getElem?_eq_some_iff.1 hj).1
            rw [List.length_append,lX,lY] at hj'
            rw [List.getElem?_append_right (by omega),← hY,lX,List.getElem?_take,if_pos (by omega),List.getElem?_drop] at hj
            rw [show o+i*132+(j-i*132)=o+j by omega] at hj
            exact hj
        have hone:∀ {rr:Rope} {l:List Value},RR ρ rr l→∀ v∈l,v.oneCell'=true:=λ h=>h.one
        have tX:(X++Y).take (i*132)=X:=by rw [← lX];exact List.take_left
        have tY:(X++Y).drop (i*132)=Y:=by rw [← lX];exact List.drop_left
        obtain ⟨ii,hii,hik⟩:∃ ti,tyT.get 3=some ti∧ti.k=.int .i64:=by
          have:=ti_int
          cases hti:tyT.get 3 with
          | none=>rw [hti] at this;cases this
          | some ti=>rw [hti] at this;exact ⟨ti,rfl,by simpa using this⟩
        have hcall:=insert_c w p.blk (p.sh+o) ln c i pv.blk (pv.sh+vo) lm mc arr varr fr vfr vt (X++Y) Z c1 (c5.no) (by rw [hsz];exact hs) (by rw [List.length_append,lX,lY];omega) hcXY
          (λ v hv=>by rcases List.mem_append.1 hv with hv|hv;exact hone d2 v hv;exact hone d4 v hv) v1 hvbf hblk lZ (λ j v hj=>by
            rw [← hZ,List.getElem?_take] at hj
            split at hj
            . rw [List.getElem?_drop] at hj
              rw [Nat.add_assoc]
              exact v4 _ _ hj
            . cases hj) (hone d6) hlt h1m hl hcm hfit (λ w ty l c olds pp h3 h4 h5 h6 h7=>by
            have hfitB:∀ l,l≤100000→fitsB te l=true:=λ l h2=>by
              unfold fitsB
              rw [hz,hby]
              have e1:Nat.ble l 1000000000000=true:=Nat.ble_eq_true_of_le (by omega)
              have e2:Nat.ble (Nat.mul l 160) 140737488355328=true:=Nat.ble_eq_true_of_le (by show l*160≤_;omega)
              rw [e1,e2];rfl
            obtain ⟨qs,q1,q2,_,q4⟩:=zero_x (ρ:=ρ) (w:=w) hu hT (tyT_ok _ _ hii) hik (hfitB pp (by omega)) .i64
            obtain ⟨zs,z1,z2⟩:=q4 ty (some ⟨p.blk,p.sh+o,none⟩) l c olds (by rw [hz];exact h3) h4 (hfitB _ h5)
            have hge:=grownCap_ge w (l+pp) c 47
            refine ⟨olds.toArray++qs.toArray++zs,λ j v hj=>?_,?_,z2⟩
            . have hj':=(List.getElem?_eq_some_iff.1 hj).1
              rw [Array.getElem?_append_left (by simp;omega),Array.getElem?_append_left (by simpa using hj')]
              simpa using hj
            . simp only [Array.size_append,List.size_toArray,h6,q2,z1,hz,← Nat.add_mul]
              congr 1;omega)
        rw [tX,tY] at hcall
        refine Calls.mono hcall λ en w' ⟨xv,e3,hx⟩=>⟨xv,e3,?_⟩
        rcases hx with ⟨hg,hxv,⟨w1,hg1',hu1⟩,arr',a1,a2,a3⟩|⟨hg,cap,arr',hxv,a1,a2,a3,a4,a5,a6⟩
        . subst hxv
          have s1:Stp fl fd ρ h.get nx w ρ h.get nx w1:=Stp.ofGrow hr hg1'
          refine ⟨_,.at _ _ (.slu nx 0 (ln+lm) te.size c (p.sh+o) ⟨p.blk,p.sh+o,p.size⟩ ?_ hg hcm (.inl rfl) (by rw [hz];exact hs)),
            s1.trans (stp_move (fl:=fl) s1.rel (o':=p.sh+o) (arr:=arr') (cs:=X++Z++Y) hb hp hfd hrr a3 (by rw [a2];exact c5) (a2.trans hsz) a1 hu1 (λ j=>by rw [hget,hg1])) hfl⟩
          show (if nx=nx then _ else _)=_
          rw [if_pos rfl]
        . subst hxv
          have s1:Stp fl fd ρ h.get nx w ρ h1.get nx w:=stp_del hr hfd hg1
          refine ⟨_,.at _ _ (.slu nx 0 (ln+lm) te.size cap 0 ⟨w.heap.size,0,arr'.size⟩ ?_ a1 a2 (.inl rfl) (by show 0+cap*te.size≤arr'.size;rw [a5,hz];omega)),
            s1.trans (stp_newG s1.rel hfl hrr a6 a3 a4 hget) hfl⟩
          show (if nx=nx then _ else _)=_
          rw [if_pos rfl]
      . exact .inl rfl
  . exact .inl rfl
end Go.Proofs.YtlmdfhkdeieceaaGreat
namespace Go.E
open Go Go.RowKit Go.V
abbrev Iso:=Tr Nat
def isoP (ψ : Iso) (b b':Nat):Bool:=match ψ.get b with|some c=>Nat.beq c b'|none=>false
def isoA (ψ : Iso):A→A→Bool
  | .bool a,.bool b=>bif a then b else not b
  | .int k a,.int k' b=>two (kEq k k') (Nat.beq a b)
  | .str n s,.str m t=>two (Nat.beq n m) (Nat.beq s t)
  | .ptr b o,.ptr c p=>two (isoP ψ b c) (Nat.beq o p)
  | .slice b o n c,.slice b' o' n' c'=>two (two (isoP ψ b b') (Nat.beq o o')) (two (Nat.beq n n') (Nat.beq c c'))
  | .slu b o n c,.slu b' o' n' c'=>two (two (isoP ψ b b') (Nat.beq o o')) (two (Nat.beq n n') (Nat.beq c c'))
  | .nil,.nil=>true
  | .nilSlice,.nilSlice=>true
  | .nilMap,.nilMap=>true
  | .nilFunc,.nilFunc=>true
  | .nilIface,.nilIface=>true
  | _,_=>false
def isoR (ψ : Iso):Rope→Rope→Bool
  | .by n s,.by m t=>two (Nat.beq n m) (Nat.beq s t)
  | .rp n a,.rp m b=>two (Nat.beq n m) (isoA ψ a b)
  | .nd n l r,.nd m l' r'=>two (Nat.beq n m) (two (isoR ψ l l') (isoR ψ r r'))
  | _,_=>false
def isoV (ψ : Iso):V→V→Bool
  | .at a,.at b=>isoA ψ a b
  | .agg r,.agg s=>isoR ψ r s
  | _,_=>false
def isoH (ψ φ : Iso) (nx:Nat) (h h':H):Bool:=ψ.allB λ b b'=>two (two (Nat.blt b nx) (isoP φ b' b)) (match h.get b,h'.get b' with
  | some (.cells t r),some (.cells t' r')=>two (Nat.beq t t') (isoR ψ r r')
  | _,_=>false)
def keepH {α : Type} (ψ : Tr α) (h:H):H:=Tr.only (λ b=>(ψ.get b).isSome) h
def isoPl (ψ : Iso) (ρ : Plc):Plc:=λ b=>match ψ.get b with|some c=>ρ c|none=>none
section
variable [Gl]
theorem isoP_ok {ψ : Iso} {b c:Nat} (h:isoP ψ b c=true) (ρ : Plc):isoPl ψ ρ b = ρ c:=by
  unfold isoP at h
  unfold isoPl
  split at h
  . rename_i d hd
    rw [Nat.eq_of_beq_eq_true h]
  . cases h
theorem isoA_ok {ψ : Iso} {ρ : Plc} {a b:A} {v:Value} (h:isoA ψ a b=true) (hv:AR ρ b v):AR (isoPl ψ ρ) a v:=by
  unfold isoA at h
  split at h
  . rename_i x y
    have:x=y:=by revert h;cases x<;>cases y<;>simp
    subst this
    cases hv;exact .bool _
  . obtain ⟨h1,h2⟩:=two_tt h
    cases kn_inj h1
    cases Nat.eq_of_beq_eq_true h2
    cases hv with|int _ _ hm=>exact .int _ _ hm
  . obtain ⟨h1,h2⟩:=two_tt h
    cases Nat.eq_of_beq_eq_true h1
    cases Nat.eq_of_beq_eq_true h2
    cases hv with|str x _ _ hn hs=>exact .str x _ _ hn hs
  . obtain ⟨h1,h2⟩:=two_tt h
    cases Nat.eq_of_beq_eq_true h2
    cases hv with|ptr _ _ p hp=>exact .ptr _ _ p ((isoP_ok h1 ρ).trans hp)
  . obtain ⟨h1,h2⟩:=two_tt h
    obtain ⟨h3,h4⟩:=two_tt h1
    obtain ⟨h5,h6⟩:=two_tt h2
    cases Nat.eq_of_beq_eq_true h4
    cases Nat.eq_of_beq_eq_true h5
    cases Nat.eq_of_beq_eq_true h6
    cases hv with|slice _ _ _ _ o' p hp hn hc ho=>exact .slice _ _ _ _ o' p ((isoP_ok h3 ρ).trans hp) hn hc ho
  . obtain ⟨h1,h2⟩:=two_tt h
    obtain ⟨h3,h4⟩:=two_tt h1
    obtain ⟨h5,h6⟩:=two_tt h2
    cases Nat.eq_of_beq_eq_true h4
    cases Nat.eq_of_beq_eq_true h5
    cases Nat.eq_of_beq_eq_true h6
    cases hv with|slu _ _ _ _ c o' p hp hn hc ho hs=>exact .slu _ _ _ _ c o' p ((isoP_ok h3 ρ).trans hp) hn hc ho hs
  . cases hv;exact .nil
  . cases hv;exact .nilSlice
  . cases hv;exact .nilMap
  . cases hv;exact .nilFunc
  . cases hv;exact .nilIface
  . cases h
theorem isoR_ok {ψ : Iso} {ρ : Plc}:∀ {r r':Rope} {cs:List Value},isoR ψ r r'=true→RR ρ r' cs→RR (isoPl ψ ρ) r cs
  | .by n s,.by m t,cs,h,hv=>by
    obtain ⟨h1,h2⟩:=two_tt (show two (Nat.beq n m) (Nat.beq s t)=true from h)
    cases Nat.eq_of_beq_eq_true h1
    cases Nat.eq_of_beq_eq_true h2
    cases hv with|bys _ _ hl=>exact .bys _ _ hl
  | .rp n a,.rp m b,cs,h,hv=>by
    obtain ⟨h1,h2⟩:=two_tt (show two (Nat.beq n m) (isoA ψ a b)=true from h)
    cases Nat.eq_of_beq_eq_true h1
    cases hv with|rps _ _ _ hl hall=>exact .rps _ _ _ hl λ v hv=>isoA_ok h2 (hall v hv)
  | .nd n l r,.nd m l' r',cs,h,hv=>by
    obtain ⟨h1,h2⟩:=two_tt (show two (Nat.beq n m) (two (isoR ψ l l') (isoR ψ r r'))=true from h)
    obtain ⟨h2,h3⟩:=two_tt h2
    cases Nat.eq_of_beq_eq_true h1
    cases hv with|nds _ _ _ xs ys k1 k2 hn=>exact .nds _ _ _ xs ys (isoR_ok h2 k1) (isoR_ok h3 k2) hn
  | .by _ _,.rp _ _,_,h,_=>by cases h
  | .by _ _,.nd _ _ _,_,h,_=>by cases h
  | .by _ _,.op _ _,_,h,_=>by cases h
  | .rp _ _,.by _ _,_,h,_=>by cases h
  | .rp _ _,.nd _ _ _,_,h,_=>by cases h
  | .rp _ _,.op _ _,_,h,_=>by cases h
  | .nd _ _ _,.by _ _,_,h,_=>by cases h
  | .nd _ _ _,.rp _ _,_,h,_=>by cases h
  | .nd _ _ _,.op _ _,_,h,_=>by cases h
  | .op _ _,.by _ _,_,h,_=>by cases h
  | .op _ _,.rp _ _,_,h,_=>by cases h
  | .op _ _,.nd _ _ _,_,h,_=>by cases h
  | .op _ _,.op _ _,_,h,_=>by cases h
theorem isoV_ok {ψ : Iso} {ρ : Plc} {v v':V} {x:Value} (h:isoV ψ v v'=true) (hv:VR ρ v' x):VR (isoPl ψ ρ) v x:=by
  unfold isoV at h
  split at h
  . exact .at _ _ (isoA_ok h hv.atom)
  . cases hv with|agg _ cs hr=>exact .agg _ _ (isoR_ok h hr)
  . cases h
theorem keepH_get {α : Type} (ψ : Tr α) (h:H) (b:Nat):(keepH ψ h).get b=if (ψ.get b).isSome=true then h.get b else none:=Tr.get_only _ _ _
theorem iso_rel [LoopTab] (hG:∀ g,Gl.tab g=none) {ψ φ : Iso} {nx nx':Nat} {h h':H} {ρ : Plc} {w:World} (hi:isoH ψ φ nx h h'=true) (hr:Rel ρ h'.get nx' w):Rel (isoPl ψ ρ) (keepH ψ h).get nx w:=by
  have key:∀ b b',ψ.get b=some b'→b<nx∧φ.get b'=some b∧∃ t r r',h.get b=some (.cells t r)∧h'.get b'=some (.cells t r')∧isoR ψ r r'=true:=by
    intro b b' hb
    have:=Tr.allB_get hi b b' hb
    obtain ⟨k1,k2⟩:=two_tt this
    obtain ⟨k3,k4⟩:=two_tt k1
    refine ⟨blt_t k3,?_,?_⟩
    . unfold isoP at k4
      split at k4
      . rename_i c hc;rw [hc,Nat.eq_of_beq_eq_true k4]
      . cases k4
    . split at k2
      . rename_i t r t' r' e1 e2
        obtain ⟨k5,k6⟩:=two_tt k2
        cases Nat.eq_of_beq_eq_true k5
        exact ⟨_,_,_,e1,e2,k6⟩
      . cases k2
  have dom:∀ b p,isoPl ψ ρ b=some p→∃ b',ψ.get b=some b'∧ρ b'=some p:=by
    intro b p hb
    unfold isoPl at hb
    split at hb
    . rename_i c hc;exact ⟨c,hc,hb⟩
    . cases hb
  refine ⟨λ b p hb=>?_,λ b B hB=>?_,λ b c p q h1 h2 h3 h4 h5=>?_,λ g b hb=>by rw [hG] at hb;cases hb⟩
  . obtain ⟨b',k1,k2⟩:=dom b p hb
    exact ⟨(key b b' k1).1,(hr.dom b' p k2).2⟩
  . rw [keepH_get] at hB
    cases hb : ψ.get b with
    | none=>rw [hb] at hB;cases hB
    | some b' =>
      rw [hb] at hB
      have hB:h.get b=some B:=hB
      obtain ⟨_,_,t,r,r',k1,k2,k3⟩:=key b b' hb
      rw [hB] at k1
      cases k1
      obtain ⟨p,k4,arr,fr,cs,q1,q2,q3,q4,q5⟩:=hr.blk b' _ k2
      exact ⟨p,by unfold isoPl;rw [hb];exact k4,arr,fr,cs,q1,q2,isoR_ok k3 q3,q4,q5⟩
  . obtain ⟨b',k1,k2⟩:=dom b p h3
    obtain ⟨c',k3,k4⟩:=dom c q h4
    obtain ⟨_,k5,_,_,_,_,k6,_⟩:=key b b' k1
    obtain ⟨_,k7,_,_,_,_,k8,_⟩:=key c c' k3
    have e:=hr.inj b' c' p q (by rw [k6];simp) (by rw [k8];simp) k2 k4 h5
    subst e
    rw [k5] at k7
    exact Option.some.inj k7
theorem keep_rel [LoopTab] {α : Type} {ψ : Tr α} {nx:Nat} {h:H} {ρ : Plc} {w:World} (hr:Rel ρ h.get nx w):Rel ρ (keepH ψ h).get nx w:=hr.less λ b B hB=>by
  rw [keepH_get] at hB
  split at hB
  . exact hB
  . cases hB
end
def ptrA:A→A→List (Nat×Nat)→List (Nat×Nat)
  | .ptr b _,.ptr c _,l=>(b,c)::l
  | .slice b _ _ _,.slice c _ _ _,l=>(b,c)::l
  | .slu b _ _ _,.slu c _ _ _,l=>(b,c)::l
  | _,_,l=>l
def ptrR:Rope→Rope→List (Nat×Nat)→List (Nat×Nat)
  | .rp _ a,.rp _ b,l=>ptrA a b l
  | .nd _ l r,.nd _ l' r',q=>ptrR l l' (ptrR r r' q)
  | _,_,l=>l
def ptrV:V→V→List (Nat×Nat)→List (Nat×Nat)
  | .at a,.at b,l=>ptrA a b l
  | .agg r,.agg s,l=>ptrR r s l
  | _,_,l=>l
def reachK (h h':H):Nat→List (Nat×Nat)→Iso→Iso→(Iso→Iso→Bool)→Bool
  | 0,_,_,_,_=>false
  | _+1,[],ψ,φ,k=>k ψ φ
  | f+1,(b,c)::l,ψ,φ,k=>match ψ.get b with
    | some d=>bif Nat.beq d c then reachK h h' f l ψ φ k else false
    | none=>Tr.put false 64 ψ b (some c) λ ψ=>Tr.put false 64 φ c (some b) λ φ=>match h.get b,h'.get c with
      | some (.cells _ r),some (.cells _ r')=>reachK h h' f (ptrR r r' l) ψ φ k
      | _,_=>false
theorem reachK_k {h h':H}:∀ {f:Nat} {l:List (Nat×Nat)} {ψ φ : Iso} {k:Iso→Iso→Bool},reachK h h' f l ψ φ k=true→∃ ψ φ,k ψ φ = true
  | 0,_,_,_,_,H=>by cases H
  | _+1,[],ψ,φ,k,H=>⟨ψ,φ,H⟩
  | f+1,(b,c)::l,ψ,φ,k,H=>by
    unfold reachK at H
    split at H
    . rename_i d _
      cases hd:Nat.beq d c with
      | true=>rw [hd] at H;exact reachK_k H
      | false=>rw [hd] at H;cases H
    . rcases Tr.get_put (bad := false) 64 ψ b (some c) (fun ψ => Tr.put false 64 φ c (some b) fun φ => match h.get b, h'.get c with
        | some (.cells _ r),some (.cells _ r')=>reachK h h' f (ptrR r r' l) ψ φ k
        | _,_=>false) with e|⟨ψ',_,e⟩
      . rw [e] at H;cases H
      . rw [e] at H
        dsimp only at H
        rcases Tr.get_put (bad:=false) 64 φ c (some b) (λ φ=>match h.get b,h'.get c with
          | some (.cells _ r),some (.cells _ r')=>reachK h h' f (ptrR r r' l) ψ' φ k
          | _,_=>false) with e|⟨φ',_,e⟩
        . rw [e] at H;cases H
        . rw [e] at H
          dsimp only at H
          split at H
          . exact reachK_k H
          . cases H
end Go.E
namespace Go.S
open Go Go.E
variable [Gl] {Γ : Ctx}
noncomputable def segK (Γ : Ctx) (tab:Tr TE) (d:Nat) (q:FuncId) (sz:Nat) (u:List Bool) (c:Code) (e:E2) (h:H) (nx:Nat) (k:X→E2→M2→Bool):Bool :=
  Cl.rec (motive:=λ _=>Bool) (λ F=>F (.mk (run tab d) 0 0) e (.mk h nx) k) false (cdC Γ q sz u c)
theorem segK_ok {tab : Tr TE} (ht : TabOk Γ tab) {d : Nat} {q : FuncId} {sz : Nat} {u : List Bool} {c : Code} {e : E2} {env : En} {h : H} {nx : Nat} {k : X → E2 → M2 → Bool} {k' : X → En → H → Nat → Bool} (hn : need c ≤ 1000000000) (he : EnvS e env)
    (hk:∀ x e env h nx,EnvS e env→k x e (.mk h nx)=true→k' x env h nx=true) (H:segK Γ tab d q sz u c e h nx k=true):evC false (callN false Γ true d) Γ true 0 0 q sz 1000000000 u c env h nx k'=true:=by
  unfold segK at H
  cases hc:cdC Γ q sz u c with
  | no=>rw [hc] at H;cases H
  | mk F=>rw [hc] at H;exact cdC_ok hc 1000000000 hn _ _ 0 0 e env h nx k k' (run_sim ht d) he hk H
end Go.S
namespace Go.E
open Go Go.RowKit Go.V
variable [Gl] {P:Program}
abbrev noPl:Plc:=λ _=>none
abbrev noHp:Hp:=λ _=>none
def At [LoopTab] (w0:World) (n:Nat) (env:En) (h:H) (nx:Nat) (a:Act) (w:World):Prop :=
  ∃ ρ ms,EnvOk ρ n env a∧Stp 0 0 noPl noHp 0 w0 ρ h.get nx w∧a.defers=List.map mkD ms∧Marks w0 ρ h.get w ms
theorem stp_none [LoopTab] (hG:∀ g,Gl.tab g=none) (w:World):Stp 0 0 noPl noHp 0 w noPl (Tr.lf:H).get 0 w :=
  ⟨λ _ _ h=>h,Nat.le_refl _,Rel.none hG w,λ b p h=>(by cases h),λ b h=>absurd h (Nat.not_lt_zero _),λ b p h _=>absurd rfl h,rfl,rfl,rfl,Nat.le_refl _,λ _ _ _=>rfl,λ _ h=>h⟩
theorem At.goes [LoopTab] {w0 : World} {n : Nat} {env env' : En} {h h' : H} {nx nx' : Nat} {a : Act} {w : World} {x : Exit} {G : Option Nat → (Exit → Act → World → Prop) → Act → World → Prop} (hA : At w0 n env h nx a w) (hg : Goes P 0 0 env h nx n x env' h' nx' G)
    {Q:Exit→Act→World→Prop} (hQ:∀ a' w',At w0 n env' h' nx' a' w'→Q x a' w'):G none Q a w:=by
  obtain ⟨ρ,ms,h1,h2,h3,h4⟩:=hA
  refine hg ρ a w h1 h2.rel none (λ l hl=>by cases hl) Q λ ρ' a' w' k1 k2 k3=>hQ a' w' ?_
  obtain ⟨ms',d1,d2,d3⟩:=k3
  refine ⟨ρ',ms'++ms,k1,h2.trans k2 (Nat.le_refl _),by rw [d1,h3,List.map_append],?_⟩
  have hm:=h4.stp k2
  refine ⟨List.nodup_append.2 ⟨d2,hm.1,λ r hr r' hr' e=>?_⟩,λ r hr=>?_⟩
  . subst e
    have:=(d3 r hr).1
    obtain ⟨_,⟨k5,_⟩,_⟩:=h4.2 r hr'
    omega
  . rcases List.mem_append.1 hr with hr|hr
    . obtain ⟨e1,e2,e3⟩:=d3 r hr
      exact ⟨Nat.le_trans h2.size e1,e2,e3⟩
    . exact hm.2 r hr
theorem iso_src {ψ φ : Iso} {nx:Nat} {h h':H} (hi:isoH ψ φ nx h h'=true) {b b':Nat} (hb : ψ.get b=some b'):h'.get b'≠none:=by
  obtain ⟨_,k2⟩:=two_tt (Tr.allB_get hi b b' hb)
  split at k2
  . rename_i t r t' r' e1 e2;rw [e2];simp
  . cases k2
theorem At.iso [LoopTab] (hG : ∀ g, Gl.tab g = none) {w0 : World} {n : Nat} {env env' : En} {h h' : H} {nx nx' : Nat} {ψ φ : Iso} {a : Act} {w : World} (hi : isoH ψ φ nx h h' = true)
    (he:∀ t v,env.get t=some v→∃ v',env'.get t=some v'∧isoV ψ v v'=true) (hA:At w0 n env' h' nx' a w):At w0 n env (keepH ψ h) nx a w:=by
  obtain ⟨ρ,ms,h1,h2,h3,h4⟩:=hA
  have hrel:=iso_rel hG hi h2.rel
  have back:∀ b p,(keepH ψ h).get b≠none→isoPl ψ ρ b=some p→∃ b',h'.get b'≠none∧ρ b'=some p:=by
    intro b p hb hp
    unfold isoPl at hp
    split at hp
    . rename_i c hc;exact ⟨c,iso_src hi hc,hp⟩
    . cases hp
  refine ⟨isoPl ψ ρ,ms,⟨h1.size,λ t v ht=>?_,hrel.gl⟩,⟨λ b p h=>(by cases h),Nat.zero_le _,hrel,λ b p _=>.inr (Nat.zero_le _),λ b h=>absurd h (Nat.not_lt_zero _),λ b p k1 k2=>?_,h2.os,h2.tape,h2.output,h2.size,(λ k hk _=>h2.fr k hk λ b p _ h=>absurd rfl h),h2.lp⟩,h3,h4.1,λ r hr=>?_⟩
  . obtain ⟨v',k1,k2⟩:=he t v ht
    exact isoV_ok k2 (h1.get t v' k1)
  . obtain ⟨b',k3,k4⟩:=back b p k1 k2
    rcases h2.live b' p k3 k4 with ⟨k5,_⟩|⟨_,k6⟩
    . exact absurd rfl k5
    . exact .inr ⟨Nat.zero_le _,k6⟩
  . obtain ⟨k1,⟨k2,k3⟩,k4⟩:=h4.2 r hr
    exact ⟨k1,⟨k2,λ b p q1 q2=>by obtain ⟨b',k5,k6⟩:=back b p q1 q2;exact k3 b' p k5 k6⟩,k4⟩
theorem At.less [LoopTab] {α : Type} {w0:World} {n:Nat} {env env':En} {h:H} {nx:Nat} {ψ : Tr α} {a:Act} {w:World} (he:∀ t v,env.get t=some v→env'.get t=some v) (hA:At w0 n env' h nx a w):At w0 n env (keepH ψ h) nx a w:=by
  obtain ⟨ρ,ms,h1,h2,h3,h4⟩:=hA
  have sub:∀ b,(keepH ψ h).get b≠none→h.get b≠none:=λ b hb=>by
    rw [keepH_get] at hb
    split at hb
    . exact hb
    . exact absurd rfl hb
  refine ⟨ρ,ms,⟨h1.size,λ t v ht=>h1.get t v (he t v ht),h1.gl⟩,⟨λ b p h=>(by cases h),Nat.zero_le _,keep_rel h2.rel,λ b p _=>.inr (Nat.zero_le _),λ b h=>absurd h (Nat.not_lt_zero _),λ b p k1 k2=>h2.live b p (sub b k1) k2,h2.os,h2.tape,h2.output,h2.size,(λ k hk _=>h2.fr k hk λ b p _ h=>absurd rfl h),h2.lp⟩,h3,h4.1,λ r hr=>?_⟩
  obtain ⟨k1,⟨k2,k3⟩,k4⟩:=h4.2 r hr
  exact ⟨k1,⟨k2,λ b p q1 q2=>k3 b p (sub b q1) q2⟩,k4⟩
theorem At.grow [LoopTab] (hG:∀ g,Gl.tab g=none) {w0:World} {n:Nat} {env:En} {h:H} {nx:Nat} {a:Act} {w:World} (hA:At w0 n env h nx a w):Grow w0 w:=by
  obtain ⟨ρ,ms,h1,h2,h3,h4⟩:=hA
  exact h2.grow (Rel.none hG w0)
theorem seg_goes {Γ : Ctx} (hm : P.follows .mixedOrders = true) (hΓ : CtxOk P Γ) {q : FuncId} {fi : FI} (hfi : Γ.fn.get q = some fi) {u : List Bool} {c : Code} (hsub : sub fi.body u = some c) {d N : Nat} {env : En} {h : H} {nx : Nat} {k : X → En → H → Nat → Bool}
    (H:evC false (callN false Γ true d) Γ true 0 0 q fi.n N u c env h nx k=true):∃ x env' h' nx',@Goes (tabOf Γ) _ P 0 0 env h nx fi.n (xOf x) env' h' nx' (λ ro=>c.wpIn (FR ro) 0 P)∧k x env' h' nx'=true:=by
  letI:=tabOf Γ
  have hC:CallOk false P Γ (callN false Γ true d):=callN_ok hΓ (tabOf_ok Γ) true (λ C hC=>drawn_ok hm hΓ.ty hC true) d
  rcases evC_ok hΓ.ty hC true (drawn_ok hm hΓ.ty hC true) (Nat.le_refl _) q fi.body fi.n (λ u g ps a b hu=>tabOf_ok Γ q fi u g ps a b hfi hu) N u c env h nx k (sub_code (hΓ.fn q fi hfi).code hsub) hsub with e|⟨x,env',h',nx',hg,e⟩
  . rw [H] at e;cases e
  . exact ⟨x,env',h',nx',hg.wp,by rw [← e];exact H⟩
end Go.E
namespace Go.E
open Go Go.RowKit Go.V
variable [Gl] {P:Program}
theorem At.start [LoopTab] (hG:∀ g,Gl.tab g=none) {w0 w:World} {n:Nat} {env:En} {e:Env} {a:Act} (hg:Grow w0 w) (hf:Fits n e a) (he:∀ t v,env.get t=some v→∃ x,find e t=some x∧VR noPl v x):At w0 n env .lf 0 a w:=by
  have hs:Stp 0 0 noPl noHp 0 w0 noPl (Tr.lf:H).get 0 w:=⟨λ _ _ h=>h,Nat.le_refl _,Rel.none hG w,λ b p h=>(by cases h),λ b h=>absurd h (Nat.not_lt_zero _),λ b p h _=>absurd rfl h,hg.1.os,hg.1.tape,hg.1.output,hg.2,λ k hk _=>hg.block k hk,λ k ⟨r,hr⟩=>⟨r,by rw [hg.block k (Array.getElem?_eq_some_iff.1 hr).1];exact hr⟩⟩
  refine ⟨noPl,[],⟨hf.size,λ t v ht=>?_,λ g b hb=>by rw [hG] at hb;cases hb⟩,hs,by rw [hf.defers];rfl,⟨List.nodup_nil,λ r hr=>by cases hr⟩⟩
  obtain ⟨x,h1,h2⟩:=he t v ht
  rw [hf.get t x h1]
  exact h2
theorem At.ends [LoopTab] (hG : ∀ g, Gl.tab g = none) {Γ : Ctx} (hΓ : CtxOk P Γ) {fi : FI} {fn : Func} (e4 : fn.results = fi.res.toArray) {w0 : World} {env : En} {h : H} {nx : Nat} {a : Act} {w : World} (hA : At w0 fi.n env h nx a w)
    (H:resK false Γ true env h fi.res (λ vs=>isT (packV vs))=true):LeavesInM Fence.wide 0 P fn a.tmps (Ret λ x w'=>x=.bool true∧Grow w0 w') a.defers .returning w:=by
  obtain ⟨ρ,ms,h1,h2,h3,h4⟩:=hA
  rcases resK_ok (bad:=false) (nx:=nx) hΓ.ty true fi.res (λ vs=>isT (packV vs)) with e|⟨us,hus,e⟩
  . rw [H] at e;cases e
  . rw [H] at e
    rw [h3]
    refine leaves_ok (λ w2 hs2=>?_) ms w h2 h4.1 h4.2
    obtain ⟨zs,k3,k4⟩:=hus ρ fi.n a w2 h1 hs2.rel (rg a.tmps) (λ t=>rfl) (λ t ty=>rfl)
    refine ⟨packed zs,?_,packed zs,rfl,isT_ok e.symm (packV_ok k3),hs2.grow (Rel.none hG w0)⟩
    rw [results_eq,e4]
    simp only [Array.mapM_eq_foldlM,List.foldlM_toArray',bind_pure_comp,Sem.run_map,List.size_toArray,k4,Result.andThen_ok,Array.empty_append]
    match zs with
    | []=>rfl
    | [v]=>rfl
    | v::u::r=>rfl
theorem calls_code {f:FuncId} {fi:FI} (hF:FnOk P f fi) {xs:List Value} {w0:World} {R:Ending→World→Prop} (h:∀ fn:Func,P.funcs[f]? = some fn→fn.results=fi.res.toArray→fi.body.wpIn (FR none) 0 P (bodyPostM Fence.wide 0 P fn R) { tmps:=xs.toArray++Array.replicate (fi.n-xs.length) undef,defers:=[] } w0):Calls P f xs.toArray w0 R:=by
  obtain ⟨fn,e1,e2,e3,e4,e5⟩:=hF.ent.ex
  refine (callsIn_wide (n:=0)).1 (callsIn_of_wp_marks e1 e2 trivial ?_)
  have this:fi.body.wpIn Fence.wide 0 P (bodyPostM Fence.wide 0 P fn R) _ w0:=h fn e1 e4
  rw [← e3] at this
  simpa using this
theorem rounds_one {c:Code} {Q:Exit→Act→World→Prop} {a:Act} {w:World} {m:Nat} (h:c.wpIn (FR none) 0 P (Exit.then (Code.roundsIn (FR none) 0 P c Q m) Q) a w):Code.roundsIn (FR none) 0 P c Q (m+1) a w:=h
end Go.E
namespace Go.S
open Go Go.E
variable [Gl]
theorem len_par (a:A):Par λ k=>lenA false a k:=by
  unfold lenA
  split<;>first|exact Par.pure _|exact Par.bad
theorem del_par (h:H) (b:Nat):Par λ k=>delK false h b k:=put_par 64 h b none
theorem setK_par (h:H) (b:Nat) (x:Bk):Par λ k=>setK false h b x k:=put_par 64 h b (some x)
theorem newSlu_par (h:H) (nx:Nat) (bk:Bk) (f:Nat→V):Par λ k:Out3→Bool=>newK false true h nx bk λ h nx'=>k (f nx',h,nx') :=
  (new_par h nx bk).bind (G:=λ h' nx' k=>k (f nx',h',nx')) λ h' nx'=>Par.pure (α:=Out3) _
theorem app_par (fl fd:Nat) (h:H) (nx e:Nat) (te:TI) (s:A) (n:Nat) (q:Rope):Par λ k:Out3→Bool=>appK false true fl fd h nx e te s n q λ v h nx=>k (v,h,nx):=by
  unfold appK
  split
  . exact Par.ite (F:=λ k=>k (V.at .nilSlice,h,nx)) (G:=λ k=>okK false (fitsB te n) _) _ (Par.pure (α:=Out3) _) (okK_par _ (newSlu_par h nx _ λ _=>.at (.slu nx 0 n te.size)))
  . rename_i b o l c
    simp only [natK_eq]
    refine Par.ite (F:=λ k=>k (V.at (.slice b o l c),h,nx)) (G:=λ k=>bif Nat.ble (Nat.add l n) c then _ else _) _ (Par.pure (α:=Out3) _) ?_
    refine Par.ite (F:=λ k=>cellsK false h b λ bt r=>_) (G:=λ k=>okK false (fitsB te (Nat.add l n)) _) _ ?_ (okK_par _ ?_)
    . refine (cells_par h b).bind (G:=λ bt r k=>okK false (Nat.ble fl b) _) λ bt r=>okK_par _ ?_
      refine (upd_par r _ _ q).bind (G:=λ r k=>setK false h b (.cells bt r) λ h=>k (V.at (.slice b o (Nat.add l n) c),h,nx)) λ r=>?_
      exact (setK_par h b _).bind (G:=λ h k=>k (V.at (.slice b o (Nat.add l n) c),h,nx)) λ _=>Par.pure (α:=Out3) _
    . refine Par.ite (F:=λ k=>newK false true h nx (.cells e q) λ h nx'=>k (V.at (.slu nx 0 (Nat.add l n) te.size),h,nx')) (G:=λ k=>cellsK false h b λ bt r=>_) _ (newSlu_par h nx _ λ _=>.at (.slu nx 0 (Nat.add l n) te.size)) ?_
      refine (cells_par h b).bind (G:=λ bt r k=>r.sub false true o (Nat.mul l te.size) λ x=>jn true (Nat.mul l te.size) x q λ r=>newK false true h nx (.cells e r) λ h nx'=>k (V.at (.slu nx 0 (Nat.add l n) te.size),h,nx')) λ bt r=>?_
      refine (sub_par r _ _).bind (G:=λ x k=>jn true (Nat.mul l te.size) x q λ r=>newK false true h nx (.cells e r) λ h nx'=>k (V.at (.slu nx 0 (Nat.add l n) te.size),h,nx')) λ x=>?_
      exact (jn_par _ x q).bind (G:=λ r k=>newK false true h nx (.cells e r) λ h nx'=>k (V.at (.slu nx 0 (Nat.add l n) te.size),h,nx')) λ r=>newSlu_par h nx _ λ _=>.at (.slu nx 0 (Nat.add l n) te.size)
  . rename_i b o l z'
    simp only [natK_eq]
    refine Par.ite (F:=λ k=>k (V.at (.slu b o l z'),h,nx)) (G:=λ k=>okK false (two (Nat.beq te.size z') (Nat.ble fd b)) _) _ (Par.pure (α:=Out3) _) (okK_par _ (okK_par _ ?_))
    refine (cells_par h b).bind (G:=λ bt r k=>okK false (Nat.beq bt e) (r.sub false true o (Nat.mul l te.size) λ x=>jn true (Nat.mul l te.size) x q λ r=>delK false h b λ h=>newK false true h nx (.cells e r) λ h nx'=>k (V.at (.slu nx 0 (Nat.add l n) te.size),h,nx'))) λ bt r=>okK_par _ ?_
    refine (sub_par r _ _).bind (G:=λ x k=>jn true (Nat.mul l te.size) x q λ r=>delK false h b λ h=>newK false true h nx (.cells e r) λ h nx'=>k (V.at (.slu nx 0 (Nat.add l n) te.size),h,nx')) λ x=>?_
    refine (jn_par _ x q).bind (G:=λ r k=>delK false h b λ h=>newK false true h nx (.cells e r) λ h nx'=>k (V.at (.slu nx 0 (Nat.add l n) te.size),h,nx')) λ r=>?_
    exact (del_par h b).bind (G:=λ h k=>newK false true h nx (.cells e r) λ h nx'=>k (V.at (.slu nx 0 (Nat.add l n) te.size),h,nx')) λ h=>newSlu_par h nx _ λ _=>.at (.slu nx 0 (Nat.add l n) te.size)
  . exact Par.bad
end Go.S
namespace Go.Proofs.YtlmdfhkdeieceaaGreat
open Go Go.E Go.S
theorem conIns_p [Gl]:S.ConP conIns:=by
  intro vs h fl fd nx
  unfold conIns
  dsimp only
  split
  . exact Par.bad
  rename_i te hte
  split
  . rename_i s i v
    refine (len_par v).bind (G:=λ m k=>lenA false s λ n=>okK false _ _) λ m=>?_
    refine (len_par s).bind (G:=λ n k=>okK false _ _) λ n=>okK_par _ ?_
    refine Par.ite (F:=λ k=>srcK false true h v te.size m λ q=>_) (G:=λ k=>okK false (Nat.blt i n) _) _ ?_ (okK_par _ ?_)
    . exact (src_par h v te.size m).bind (G:=λ q k=>appK false true fl fd h nx 47 te s m q λ v h nx=>k (v,h,nx)) λ q=>app_par fl fd h nx _ te s m q
    . split
      . rename_i b o _ z vb vo _ _
        refine okK_par _ ?_
        refine (cells_par h vb).bind (G:=λ vt vr k=>okK false (not (Gl.byt vt)) _) λ vt vr=>okK_par _ ?_
        refine (sub_par vr _ _).bind (G:=λ q k=>cellsK false h b λ bt r=>_) λ q=>?_
        refine (cells_par h b).bind (G:=λ bt r k=>okK false (Nat.beq bt 47) _) λ bt r=>okK_par _ ?_
        refine (sub_par r _ _).bind (G:=λ x k=>r.sub false true _ _ λ y=>_) λ x=>?_
        refine (sub_par r _ _).bind (G:=λ y k=>jn true _ x q λ xq=>_) λ y=>?_
        refine (jn_par _ x q).bind (G:=λ xq k=>jn true _ xq y λ r'=>_) λ xq=>?_
        refine (jn_par _ xq y).bind (G:=λ r' k=>delK false h b λ h=>_) λ r'=>?_
        exact (del_par h b).bind (G:=λ h k=>newK false true h nx (.cells 47 r') λ h nx'=>k (V.at (.slu nx 0 (Nat.add n m) z),h,nx')) λ h=>newSlu_par h nx _ λ _=>.at (.slu nx 0 (Nat.add n m) z)
      . exact Par.bad
  . exact Par.bad
noncomputable def addC (t:Tr Con) (n:Nat) (c:Con):Tr Con:=Tr.put t 64 t n (some c) id
theorem addC_all {p:Nat→Con→Prop} {t:Tr Con} {n:Nat} {c:Con} (h:∀ f c,t.get f=some c→p f c) (hc:p n c):∀ f c',(addC t n c).get f=some c'→p f c':=by
  intro f c' hf
  rcases Tr.get_put (bad:=t) 64 t n (some c) id with e|⟨t',ht',e⟩
  . unfold addC at hf;rw [e] at hf;exact h f c' hf
  . unfold addC at hf
    rw [e] at hf
    have hf:t'.get f=some c':=hf
    rw [ht'] at hf
    split at hf
    . rename_i e2;cases hf;rw [e2];exact hc
    . exact h f c' hf
noncomputable def conTq [Gl]:Tr Con:=addC conT 34 conIns
theorem conTq_ok [Gl] (i:LoopTab):∀ f c,conTq.get f=some c→ConOk Tryz.prog f c:=addC_all (conT_ok i) conIns_ok
theorem conTq_p [Gl]:∀ f c,conTq.get f=some c→S.ConP c:=addC_all conT_p conIns_p
noncomputable def ctxq [Gl]:Ctx:=⟨tyT,fnT,conTq,wmT,.lf⟩
theorem ctxq_ok [Gl]:CtxOk Tryz.prog ctxq:=⟨tyT_ok,fnT_ok,conTq_ok,λ g c h=>(by cases h)⟩
end Go.Proofs.YtlmdfhkdeieceaaGreat
