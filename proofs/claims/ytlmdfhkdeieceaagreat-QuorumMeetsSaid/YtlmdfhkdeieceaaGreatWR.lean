import Derived.Test.YtlmdfhkdeieceaaGreatWr
import Derived.Test.YtlmdfhkdeieceaaGreatWs
import Derived.Test.YtlmdfhkdeieceaaGreatWt
import Derived.Test.YtlmdfhkdeieceaaGreatWu
import Derived.Test.YtlmdfhkdeieceaaGreatWv
import Derived.Test.YtlmdfhkdeieceaaGreatWw
import Derived.Test.YtlmdfhkdeieceaaGreatWx
import Derived.Test.YtlmdfhkdeieceaaGreatWy
import Derived.Test.YtlmdfhkdeieceaaGreatWz
import Derived.Test.YtlmdfhkdeieceaaGreatWA
import Derived.Test.YtlmdfhkdeieceaaGreatWB
import Derived.Test.YtlmdfhkdeieceaaGreatWC
import Derived.Test.YtlmdfhkdeieceaaGreatWD
import Derived.Test.YtlmdfhkdeieceaaGreatWE
import Derived.Test.YtlmdfhkdeieceaaGreatWF
import Derived.Test.YtlmdfhkdeieceaaGreatWG
import Derived.Test.YtlmdfhkdeieceaaGreatWH
import Derived.Test.YtlmdfhkdeieceaaGreatWI
import Derived.Test.YtlmdfhkdeieceaaGreatWJ
import Derived.Test.YtlmdfhkdeieceaaGreatWK
import Derived.Test.YtlmdfhkdeieceaaGreatWL
import Derived.Test.YtlmdfhkdeieceaaGreatWM
import Derived.Test.YtlmdfhkdeieceaaGreatWN
import Derived.Test.YtlmdfhkdeieceaaGreatWO
import Derived.Test.YtlmdfhkdeieceaaGreatWP
import Derived.Test.YtlmdfhkdeieceaaGreatWQ
set_option linter.all false
set_option maxHeartbeats 16000000
set_option maxRecDepth 100000
namespace Go.Proofs.YtlmdfhkdeieceaaGreat
open Go Go.RowKit Go.V Go.E
attribute [local instance] glQ
attribute [local instance] tabQ
def st1:Nat→H×Nat:=λ _=>(s1_0,9)
theorem tok1_0:TurnOk 1 s1_0 9 s1_0 9:=turn_ok turn1_0
theorem toks1:∀ k,k<40→TurnOk 1 (st1 k).1 (st1 k).2 (st1 (k+1)).1 (st1 (k+1)).2
  | k+0,_=>tok1_0
theorem rest1 {fn:Func} (hres:fn.results=fiQ.res.toArray) {w0:World} {a:Act} {w:World} (hA:At w0 fiQ.n (en0 1) .lf 0 a w):(cd [true,true,true]).wpIn (FR none) 0 Tryz.prog (bodyPostM Fence.wide 0 Tryz.prog fn (Ret λ x w'=>x=.bool true∧Grow w0 w')) a w:=rest_ok st1 start1 toks1 ends1 hres hA
def st2:Nat→H×Nat
  | 0=>(s2_0,11)
  | 1=>(s2_1,13)
  | _=>(s2_2,13)
theorem tok2_0:TurnOk 2 s2_0 11 s2_1 13:=turn_ok turn2_0
theorem tok2_1:TurnOk 2 s2_1 13 s2_2 13:=turn_ok turn2_1
theorem tok2_2:TurnOk 2 s2_2 13 s2_2 13:=turn_ok turn2_2
theorem toks2:∀ k,k<40→TurnOk 2 (st2 k).1 (st2 k).2 (st2 (k+1)).1 (st2 (k+1)).2
  | 0,_=>tok2_0
  | 1,_=>tok2_1
  | k+2,_=>tok2_2
theorem rest2 {fn:Func} (hres:fn.results=fiQ.res.toArray) {w0:World} {a:Act} {w:World} (hA:At w0 fiQ.n (en0 2) .lf 0 a w):(cd [true,true,true]).wpIn (FR none) 0 Tryz.prog (bodyPostM Fence.wide 0 Tryz.prog fn (Ret λ x w'=>x=.bool true∧Grow w0 w')) a w:=rest_ok st2 start2 toks2 ends2 hres hA
def st3:Nat→H×Nat
  | 0=>(s3_0,13)
  | 1=>(s3_1,17)
  | 2=>(s3_2,17)
  | _=>(s3_3,17)
theorem tok3_0:TurnOk 3 s3_0 13 s3_1 17:=turn_ok turn3_0
theorem tok3_1:TurnOk 3 s3_1 17 s3_2 17:=turn_ok turn3_1
theorem tok3_2:TurnOk 3 s3_2 17 s3_3 17:=turn_ok turn3_2
theorem tok3_3:TurnOk 3 s3_3 17 s3_3 17:=turn_ok turn3_3
theorem toks3:∀ k,k<40→TurnOk 3 (st3 k).1 (st3 k).2 (st3 (k+1)).1 (st3 (k+1)).2
  | 0,_=>tok3_0
  | 1,_=>tok3_1
  | 2,_=>tok3_2
  | k+3,_=>tok3_3
theorem rest3 {fn:Func} (hres:fn.results=fiQ.res.toArray) {w0:World} {a:Act} {w:World} (hA:At w0 fiQ.n (en0 3) .lf 0 a w):(cd [true,true,true]).wpIn (FR none) 0 Tryz.prog (bodyPostM Fence.wide 0 Tryz.prog fn (Ret λ x w'=>x=.bool true∧Grow w0 w')) a w:=rest_ok st3 start3 toks3 ends3 hres hA
def st4:Nat→H×Nat
  | 0=>(s4_0,15)
  | 1=>(s4_1,21)
  | _=>(s4_2,21)
theorem tok4_0:TurnOk 4 s4_0 15 s4_1 21:=turn_ok turn4_0
theorem tok4_1:TurnOk 4 s4_1 21 s4_2 21:=turn_ok turn4_1
theorem tok4_2:TurnOk 4 s4_2 21 s4_2 21:=turn_ok turn4_2
theorem toks4:∀ k,k<40→TurnOk 4 (st4 k).1 (st4 k).2 (st4 (k+1)).1 (st4 (k+1)).2
  | 0,_=>tok4_0
  | 1,_=>tok4_1
  | k+2,_=>tok4_2
theorem rest4 {fn:Func} (hres:fn.results=fiQ.res.toArray) {w0:World} {a:Act} {w:World} (hA:At w0 fiQ.n (en0 4) .lf 0 a w):(cd [true,true,true]).wpIn (FR none) 0 Tryz.prog (bodyPostM Fence.wide 0 Tryz.prog fn (Ret λ x w'=>x=.bool true∧Grow w0 w')) a w:=rest_ok st4 start4 toks4 ends4 hres hA
def st5:Nat→H×Nat
  | 0=>(s5_0,17)
  | 1=>(s5_1,25)
  | 2=>(s5_2,25)
  | _=>(s5_3,25)
theorem tok5_0:TurnOk 5 s5_0 17 s5_1 25:=turn_ok turn5_0
theorem tok5_1:TurnOk 5 s5_1 25 s5_2 25:=turn_ok turn5_1
theorem tok5_2:TurnOk 5 s5_2 25 s5_3 25:=turn_ok turn5_2
theorem tok5_3:TurnOk 5 s5_3 25 s5_3 25:=turn_ok turn5_3
theorem toks5:∀ k,k<40→TurnOk 5 (st5 k).1 (st5 k).2 (st5 (k+1)).1 (st5 (k+1)).2
  | 0,_=>tok5_0
  | 1,_=>tok5_1
  | 2,_=>tok5_2
  | k+3,_=>tok5_3
theorem rest5 {fn:Func} (hres:fn.results=fiQ.res.toArray) {w0:World} {a:Act} {w:World} (hA:At w0 fiQ.n (en0 5) .lf 0 a w):(cd [true,true,true]).wpIn (FR none) 0 Tryz.prog (bodyPostM Fence.wide 0 Tryz.prog fn (Ret λ x w'=>x=.bool true∧Grow w0 w')) a w:=rest_ok st5 start5 toks5 ends5 hres hA
def st6:Nat→H×Nat
  | 0=>(s6_0,19)
  | 1=>(s6_1,29)
  | 2=>(s6_2,29)
  | _=>(s6_3,29)
theorem tok6_0:TurnOk 6 s6_0 19 s6_1 29:=turn_ok turn6_0
theorem tok6_1:TurnOk 6 s6_1 29 s6_2 29:=turn_ok turn6_1
theorem tok6_2:TurnOk 6 s6_2 29 s6_3 29:=turn_parts (mid_ok mid6a) (last_ok last6)
theorem tok6_3:TurnOk 6 s6_3 29 s6_3 29:=turn_parts (mid_ok mid6b) (last_ok last6)
theorem toks6:∀ k,k<40→TurnOk 6 (st6 k).1 (st6 k).2 (st6 (k+1)).1 (st6 (k+1)).2
  | 0,_=>tok6_0
  | 1,_=>tok6_1
  | 2,_=>tok6_2
  | k+3,_=>tok6_3
theorem rest6 {fn:Func} (hres:fn.results=fiQ.res.toArray) {w0:World} {a:Act} {w:World} (hA:At w0 fiQ.n (en0 6) .lf 0 a w):(cd [true,true,true]).wpIn (FR none) 0 Tryz.prog (bodyPostM Fence.wide 0 Tryz.prog fn (Ret λ x w'=>x=.bool true∧Grow w0 w')) a w:=rest_ok st6 start6 toks6 ends6 hres hA
def st7:Nat→H×Nat
  | 0=>(s7_0,21)
  | 1=>(s7_1,33)
  | 2=>(s7_2,33)
  | _=>(s7_3,33)
theorem tok7_0:TurnOk 7 s7_0 21 s7_1 33:=turn_ok turn7_0
theorem tok7_1:TurnOk 7 s7_1 33 s7_2 33:=turn_parts (mid_ok mid7d) (last_ok last7d)
theorem tok7_2:TurnOk 7 s7_2 33 s7_3 33:=turn_parts (mid_trans (mid_ok mid7a) (mid_ok mid7c)) (last_ok last7)
theorem tok7_3:TurnOk 7 s7_3 33 s7_3 33:=turn_parts (mid_trans (mid_ok mid7b) (mid_ok mid7c)) (last_ok last7)
theorem toks7:∀ k,k<40→TurnOk 7 (st7 k).1 (st7 k).2 (st7 (k+1)).1 (st7 (k+1)).2
  | 0,_=>tok7_0
  | 1,_=>tok7_1
  | 2,_=>tok7_2
  | k+3,_=>tok7_3
theorem rest7 {fn:Func} (hres:fn.results=fiQ.res.toArray) {w0:World} {a:Act} {w:World} (hA:At w0 fiQ.n (en0 7) .lf 0 a w):(cd [true,true,true]).wpIn (FR none) 0 Tryz.prog (bodyPostM Fence.wide 0 Tryz.prog fn (Ret λ x w'=>x=.bool true∧Grow w0 w')) a w:=rest_ok st7 start7 toks7 ends7 hres hA
end Go.Proofs.YtlmdfhkdeieceaaGreat
namespace Go.Proofs.YtlmdfhkdeieceaaGreat
open Go Go.RowKit Go.V Go.E
set_option maxRecDepth 100000
attribute [local instance] glQ
attribute [local instance] tabQ
theorem body_eq:fiQ.body=.seq (cd [false]) (.seq (cd [false,true]) (.seq (cd [false,true,true]) (cd [true,true,true]))):=by kernel_rfl
theorem fits_args (args:List Value) (hn:args.length≤fiQ.n):Fits fiQ.n (argsFrom 0 args) { tmps:=args.toArray++Array.replicate (fiQ.n-args.length) undef,defers:=[] }:=by
  refine ⟨rfl,by simp;omega,λ t v ht=>?_⟩
  obtain ⟨_,h2⟩:=find_argsFrom args 0 t v ht
  have h3:t<args.length:=by
    rcases Nat.lt_or_ge t args.length with h|h
    . exact h
    . simp [List.getElem?_eq_none h] at h2
  simp only [Nat.sub_zero] at h2
  simp only [Array.getD_eq_getD_getElem?]
  rw [Array.getElem?_append_left (by simpa using h3)]
  simp [h2]
theorem pre0 (z:Int) (w:World):T Tryz.prog 205 (cd [false]) [(0,.int .i64 z)] w (λ x e w'=>x=.normal∧Sub [(0,.int .i64 z)] e∧w'=w):=by
  show T Tryz.prog 205 (cd [false]) _ w _
  unfold cd
  repeat (first|(refine TL.isGuard ?_;first|refine TL.guard_skip rfl rfl rfl ?_|refine TL.guard_run rfl rfl rfl ?_|refine TL.guard_yes rfl rfl yD rfl ?_|refine TL.guard_no rfl rfl yD rfl ?_)|(refine TL.isMove ?_;first|refine TL.pure rfl rfl ?_)|(refine TL.isAsg ?_;first|refine TL.pure rfl rfl ?_)|(refine TL.isLoad ?_;first|refine TL.load1 rfl yM rfl ?_|refine TL.loadW rfl yB (by exact rfl) rfl ?_|refine TL.loadN rfl yB (by exact rfl) (by exact rfl) rfl ?_)|(refine TL.isIndex ?_;first|refine TL.indexArr rfl rfl (by omega) rfl rfl ?_|refine TL.indexAt rfl rfl (by omega) rfl rfl ?_)|(refine TL.isField ?_;first|refine TL.fieldAddr rfl rfl ?_)|(refine TL.isAdd ?_;first|refine TL.addI rfl rfl (by omega) (by omega) rfl ?_|refine TL.addU rfl rfl rfl (by omega) rfl ?_|refine TL.addW rfl rfl rfl rfl ?_|refine TL.pure rfl rfl ?_)|(refine TL.isSub ?_;first|refine TL.subI rfl rfl (by omega) (by omega) rfl ?_|refine TL.subU rfl rfl rfl (by omega) (by omega) rfl ?_|refine TL.pure rfl rfl ?_)|(refine TL.isMul ?_;first|refine TL.mulI rfl rfl (by omega) (by omega) rfl ?_|refine TL.mulU rfl rfl rfl (by omega) rfl ?_|refine TL.mulW rfl rfl rfl rfl ?_|refine TL.pure rfl rfl ?_)|(refine TL.isAnd ?_;first|refine TL.andU rfl rfl rfl rfl (by omega) (by omega) rfl ?_)|refine TL.nil ?_|refine thenQ_normal ?_|refine T.seq ?_|refine T.region ?_|refine T.block ?_|refine blockQ_normal ?_|(refine TL.isOr ?_;first|refine TL.orM rfl rfl rfl rfl rfl (by omega) (by omega) rfl rfl ?_|refine TL.orMW rfl rfl rfl rfl rfl (by omega) rfl rfl ?_|refine TL.orL rfl rfl rfl rfl rfl (by omega) rfl rfl ?_)|(refine TL.isShl ?_;first|refine TL.shlU rfl rfl rfl rfl rfl (by omega) rfl ?_|refine TL.shlW rfl rfl rfl rfl rfl rfl ?_)|(refine TL.isShr ?_;first|refine TL.shrU rfl rfl rfl rfl rfl rfl ?_)|(refine TL.isBin ?_;first|refine TL.pure rfl rfl ?_|refine TL.eqNil rfl rfl rfl ?_|refine TL.neNil rfl rfl rfl ?_)|(refine TL.isConv ?_;first|refine TL.convU rfl rfl (by omega) rfl ?_|refine TL.convI rfl (by omega) (by omega) rfl ?_|refine TL.convW rfl rfl rfl ?_)|(refine TL.isStore ?_;first|(refine TL.store1 rfl rfl yB (by exact rfl) (by exact rfl) (by exact rfl) ?_;intro w' hu hbk hsz)|(refine TL.storeWh rfl rfl yB (by exact rfl) (by exact rfl) (by exact rfl) ?_;intro w' hu hbk hsz)|(refine TL.storeN rfl rfl yB (by exact rfl) (by exact rfl) (by exact rfl) (by exact rfl) ?_;intro w' hu hbk hsz))|(refine TL.isBox ?_;first|(refine TL.box rfl rfl rfl ?_;intro bk w' hg hbk hsz hsz'))|(refine TL.isAlloc ?_;first|(refine TL.alloc rfl rfl ?_;intro bk w' hg hbk hsz hsz'))|(refine TL.isSlice ?_;first|refine TL.sliceArr rfl (bnd_lit rfl) (bnd_lit rfl) (by omega) (by omega) (by omega) rfl rfl ?_|refine TL.sliceArr rfl (bnd_none _) (bnd_lit rfl) (by omega) (by omega) (by omega) rfl rfl ?_|refine TL.sliceArr rfl (bnd_lit rfl) (bnd_none _) (by omega) (by omega) (by omega) rfl rfl ?_|refine TL.sliceArr rfl (bnd_none _) (bnd_none _) (by omega) (by omega) (by omega) rfl rfl ?_)|(refine TL.isBuild ?_;first|refine TL.build rfl rfl rfl ?_|refine TL.buildArr rfl rfl rfl ?_)|(refine TL.isNilC ?_;first|refine TL.nilCheck rfl rfl ?_)|(refine TL.isBuildS ?_;first|(refine TL.buildSlice0 rfl ?_;intro bk w' hg hbk hsz hsz'))|(refine TL.isCall ?_;first|refine TL.len_slice rfl rfl ?_|refine TL.min2 rfl rfl rfl ?_)|refine T.cond_true rfl ?_|refine T.cond_false rfl ?_|refine T.cond_yes rfl yD ?_|refine T.cond_no rfl yD ?_|refine T.ret ?_|refine T.skip ?_|refine T.exit ?_|refine thenQ_ret ?_|refine thenQ_exit ?_|refine blockQ_hit ?_|refine blockQ_miss rfl ?_|refine blockQ_ret ?_|refine loopQ_ret ?_|refine loopQ_exit ?_|refine TL.pure rfl rfl ?_)
  exact ⟨rfl,⟨rfl,trivial⟩,rfl⟩
theorem pre1 (z:Int) (w:World):T Tryz.prog 205 (cd [false,true]) [(0,.int .i64 z)] w (λ x e w'=>x=.normal∧Sub [(0,.int .i64 z)] e∧Grow w w'):=by
  unfold cd
  repeat (first|(refine TL.isGuard ?_;first|refine TL.guard_skip rfl rfl rfl ?_|refine TL.guard_run rfl rfl rfl ?_|refine TL.guard_yes rfl rfl yD rfl ?_|refine TL.guard_no rfl rfl yD rfl ?_)|(refine TL.isMove ?_;first|refine TL.pure rfl rfl ?_)|(refine TL.isAsg ?_;first|refine TL.pure rfl rfl ?_)|(refine TL.isLoad ?_;first|refine TL.load1 rfl yM rfl ?_|refine TL.loadW rfl yB (by exact rfl) rfl ?_|refine TL.loadN rfl yB (by exact rfl) (by exact rfl) rfl ?_)|(refine TL.isIndex ?_;first|refine TL.indexArr rfl rfl (by omega) rfl rfl ?_|refine TL.indexAt rfl rfl (by omega) rfl rfl ?_)|(refine TL.isField ?_;first|refine TL.fieldAddr rfl rfl ?_)|(refine TL.isAdd ?_;first|refine TL.addI rfl rfl (by omega) (by omega) rfl ?_|refine TL.addU rfl rfl rfl (by omega) rfl ?_|refine TL.addW rfl rfl rfl rfl ?_|refine TL.pure rfl rfl ?_)|(refine TL.isSub ?_;first|refine TL.subI rfl rfl (by omega) (by omega) rfl ?_|refine TL.subU rfl rfl rfl (by omega) (by omega) rfl ?_|refine TL.pure rfl rfl ?_)|(refine TL.isMul ?_;first|refine TL.mulI rfl rfl (by omega) (by omega) rfl ?_|refine TL.mulU rfl rfl rfl (by omega) rfl ?_|refine TL.mulW rfl rfl rfl rfl ?_|refine TL.pure rfl rfl ?_)|(refine TL.isAnd ?_;first|refine TL.andU rfl rfl rfl rfl (by omega) (by omega) rfl ?_)|refine TL.nil ?_|refine thenQ_normal ?_|refine T.seq ?_|refine T.region ?_|refine T.block ?_|refine blockQ_normal ?_|(refine TL.isOr ?_;first|refine TL.orM rfl rfl rfl rfl rfl (by omega) (by omega) rfl rfl ?_|refine TL.orMW rfl rfl rfl rfl rfl (by omega) rfl rfl ?_|refine TL.orL rfl rfl rfl rfl rfl (by omega) rfl rfl ?_)|(refine TL.isShl ?_;first|refine TL.shlU rfl rfl rfl rfl rfl (by omega) rfl ?_|refine TL.shlW rfl rfl rfl rfl rfl rfl ?_)|(refine TL.isShr ?_;first|refine TL.shrU rfl rfl rfl rfl rfl rfl ?_)|(refine TL.isBin ?_;first|refine TL.pure rfl rfl ?_|refine TL.eqNil rfl rfl rfl ?_|refine TL.neNil rfl rfl rfl ?_)|(refine TL.isConv ?_;first|refine TL.convU rfl rfl (by omega) rfl ?_|refine TL.convI rfl (by omega) (by omega) rfl ?_|refine TL.convW rfl rfl rfl ?_)|(refine TL.isStore ?_;first|(refine TL.store1 rfl rfl yB (by exact rfl) (by exact rfl) (by exact rfl) ?_;intro w' hu hbk hsz)|(refine TL.storeWh rfl rfl yB (by exact rfl) (by exact rfl) (by exact rfl) ?_;intro w' hu hbk hsz)|(refine TL.storeN rfl rfl yB (by exact rfl) (by exact rfl) (by exact rfl) (by exact rfl) ?_;intro w' hu hbk hsz))|(refine TL.isBox ?_;first|(refine TL.box rfl rfl rfl ?_;intro bk w' hg hbk hsz hsz'))|(refine TL.isAlloc ?_;first|(refine TL.alloc rfl rfl ?_;intro bk w' hg hbk hsz hsz'))|(refine TL.isSlice ?_;first|refine TL.sliceArr rfl (bnd_lit rfl) (bnd_lit rfl) (by omega) (by omega) (by omega) rfl rfl ?_|refine TL.sliceArr rfl (bnd_none _) (bnd_lit rfl) (by omega) (by omega) (by omega) rfl rfl ?_|refine TL.sliceArr rfl (bnd_lit rfl) (bnd_none _) (by omega) (by omega) (by omega) rfl rfl ?_|refine TL.sliceArr rfl (bnd_none _) (bnd_none _) (by omega) (by omega) (by omega) rfl rfl ?_)|(refine TL.isBuild ?_;first|refine TL.build rfl rfl rfl ?_|refine TL.buildArr rfl rfl rfl ?_)|(refine TL.isNilC ?_;first|refine TL.nilCheck rfl rfl ?_)|(refine TL.isBuildS ?_;first|(refine TL.buildSlice0 rfl ?_;intro bk w' hg hbk hsz hsz'))|(refine TL.isCall ?_;first|refine TL.len_slice rfl rfl ?_|refine TL.min2 rfl rfl rfl ?_)|refine T.cond_true rfl ?_|refine T.cond_false rfl ?_|refine T.cond_yes rfl yD ?_|refine T.cond_no rfl yD ?_|refine T.ret ?_|refine T.skip ?_|refine T.exit ?_|refine thenQ_ret ?_|refine thenQ_exit ?_|refine blockQ_hit ?_|refine blockQ_miss rfl ?_|refine blockQ_ret ?_|refine loopQ_ret ?_|refine loopQ_exit ?_|refine TL.pure rfl rfl ?_)
  refine TL.call rfl (lives_c _) rfl ?_
  rintro _ w1 ⟨rfl,hg1⟩
  repeat (first|(refine TL.isGuard ?_;first|refine TL.guard_skip rfl rfl rfl ?_|refine TL.guard_run rfl rfl rfl ?_|refine TL.guard_yes rfl rfl yD rfl ?_|refine TL.guard_no rfl rfl yD rfl ?_)|(refine TL.isMove ?_;first|refine TL.pure rfl rfl ?_)|(refine TL.isAsg ?_;first|refine TL.pure rfl rfl ?_)|(refine TL.isLoad ?_;first|refine TL.load1 rfl yM rfl ?_|refine TL.loadW rfl yB (by exact rfl) rfl ?_|refine TL.loadN rfl yB (by exact rfl) (by exact rfl) rfl ?_)|(refine TL.isIndex ?_;first|refine TL.indexArr rfl rfl (by omega) rfl rfl ?_|refine TL.indexAt rfl rfl (by omega) rfl rfl ?_)|(refine TL.isField ?_;first|refine TL.fieldAddr rfl rfl ?_)|(refine TL.isAdd ?_;first|refine TL.addI rfl rfl (by omega) (by omega) rfl ?_|refine TL.addU rfl rfl rfl (by omega) rfl ?_|refine TL.addW rfl rfl rfl rfl ?_|refine TL.pure rfl rfl ?_)|(refine TL.isSub ?_;first|refine TL.subI rfl rfl (by omega) (by omega) rfl ?_|refine TL.subU rfl rfl rfl (by omega) (by omega) rfl ?_|refine TL.pure rfl rfl ?_)|(refine TL.isMul ?_;first|refine TL.mulI rfl rfl (by omega) (by omega) rfl ?_|refine TL.mulU rfl rfl rfl (by omega) rfl ?_|refine TL.mulW rfl rfl rfl rfl ?_|refine TL.pure rfl rfl ?_)|(refine TL.isAnd ?_;first|refine TL.andU rfl rfl rfl rfl (by omega) (by omega) rfl ?_)|refine TL.nil ?_|refine thenQ_normal ?_|refine T.seq ?_|refine T.region ?_|refine T.block ?_|refine blockQ_normal ?_|(refine TL.isOr ?_;first|refine TL.orM rfl rfl rfl rfl rfl (by omega) (by omega) rfl rfl ?_|refine TL.orMW rfl rfl rfl rfl rfl (by omega) rfl rfl ?_|refine TL.orL rfl rfl rfl rfl rfl (by omega) rfl rfl ?_)|(refine TL.isShl ?_;first|refine TL.shlU rfl rfl rfl rfl rfl (by omega) rfl ?_|refine TL.shlW rfl rfl rfl rfl rfl rfl ?_)|(refine TL.isShr ?_;first|refine TL.shrU rfl rfl rfl rfl rfl rfl ?_)|(refine TL.isBin ?_;first|refine TL.pure rfl rfl ?_|refine TL.eqNil rfl rfl rfl ?_|refine TL.neNil rfl rfl rfl ?_)|(refine TL.isConv ?_;first|refine TL.convU rfl rfl (by omega) rfl ?_|refine TL.convI rfl (by omega) (by omega) rfl ?_|refine TL.convW rfl rfl rfl ?_)|(refine TL.isStore ?_;first|(refine TL.store1 rfl rfl yB (by exact rfl) (by exact rfl) (by exact rfl) ?_;intro w' hu hbk hsz)|(refine TL.storeWh rfl rfl yB (by exact rfl) (by exact rfl) (by exact rfl) ?_;intro w' hu hbk hsz)|(refine TL.storeN rfl rfl yB (by exact rfl) (by exact rfl) (by exact rfl) (by exact rfl) ?_;intro w' hu hbk hsz))|(refine TL.isBox ?_;first|(refine TL.box rfl rfl rfl ?_;intro bk w' hg hbk hsz hsz'))|(refine TL.isAlloc ?_;first|(refine TL.alloc rfl rfl ?_;intro bk w' hg hbk hsz hsz'))|(refine TL.isSlice ?_;first|refine TL.sliceArr rfl (bnd_lit rfl) (bnd_lit rfl) (by omega) (by omega) (by omega) rfl rfl ?_|refine TL.sliceArr rfl (bnd_none _) (bnd_lit rfl) (by omega) (by omega) (by omega) rfl rfl ?_|refine TL.sliceArr rfl (bnd_lit rfl) (bnd_none _) (by omega) (by omega) (by omega) rfl rfl ?_|refine TL.sliceArr rfl (bnd_none _) (bnd_none _) (by omega) (by omega) (by omega) rfl rfl ?_)|(refine TL.isBuild ?_;first|refine TL.build rfl rfl rfl ?_|refine TL.buildArr rfl rfl rfl ?_)|(refine TL.isNilC ?_;first|refine TL.nilCheck rfl rfl ?_)|(refine TL.isBuildS ?_;first|(refine TL.buildSlice0 rfl ?_;intro bk w' hg hbk hsz hsz'))|(refine TL.isCall ?_;first|refine TL.len_slice rfl rfl ?_|refine TL.min2 rfl rfl rfl ?_)|refine T.cond_true rfl ?_|refine T.cond_false rfl ?_|refine T.cond_yes rfl yD ?_|refine T.cond_no rfl yD ?_|refine T.ret ?_|refine T.skip ?_|refine T.exit ?_|refine thenQ_ret ?_|refine thenQ_exit ?_|refine blockQ_hit ?_|refine blockQ_miss rfl ?_|refine blockQ_ret ?_|refine loopQ_ret ?_|refine loopQ_exit ?_|refine TL.pure rfl rfl ?_)
  exact ⟨rfl,⟨rfl,trivial⟩,hg1⟩
theorem pre3 (z:Int) (w:World):T Tryz.prog 205 (cd [false,true,true]) [(0,.int .i64 z)] w (λ x e w'=>x=.normal∧∃ r:Nat,r<7∧Sub [(3,.int .i64 ((1+r:Nat):Int))] e∧w'=w):=by
  unfold cd
  repeat (first|(refine TL.isGuard ?_;first|refine TL.guard_skip rfl rfl rfl ?_|refine TL.guard_run rfl rfl rfl ?_|refine TL.guard_yes rfl rfl yD rfl ?_|refine TL.guard_no rfl rfl yD rfl ?_)|(refine TL.isMove ?_;first|refine TL.pure rfl rfl ?_)|(refine TL.isAsg ?_;first|refine TL.pure rfl rfl ?_)|(refine TL.isLoad ?_;first|refine TL.load1 rfl yM rfl ?_|refine TL.loadW rfl yB (by exact rfl) rfl ?_|refine TL.loadN rfl yB (by exact rfl) (by exact rfl) rfl ?_)|(refine TL.isIndex ?_;first|refine TL.indexArr rfl rfl (by omega) rfl rfl ?_|refine TL.indexAt rfl rfl (by omega) rfl rfl ?_)|(refine TL.isField ?_;first|refine TL.fieldAddr rfl rfl ?_)|(refine TL.isAdd ?_;first|refine TL.addI rfl rfl (by omega) (by omega) rfl ?_|refine TL.addU rfl rfl rfl (by omega) rfl ?_|refine TL.addW rfl rfl rfl rfl ?_|refine TL.pure rfl rfl ?_)|(refine TL.isSub ?_;first|refine TL.subI rfl rfl (by omega) (by omega) rfl ?_|refine TL.subU rfl rfl rfl (by omega) (by omega) rfl ?_|refine TL.pure rfl rfl ?_)|(refine TL.isMul ?_;first|refine TL.mulI rfl rfl (by omega) (by omega) rfl ?_|refine TL.mulU rfl rfl rfl (by omega) rfl ?_|refine TL.mulW rfl rfl rfl rfl ?_|refine TL.pure rfl rfl ?_)|(refine TL.isAnd ?_;first|refine TL.andU rfl rfl rfl rfl (by omega) (by omega) rfl ?_)|refine TL.nil ?_|refine thenQ_normal ?_|refine T.seq ?_|refine T.region ?_|refine T.block ?_|refine blockQ_normal ?_|(refine TL.isOr ?_;first|refine TL.orM rfl rfl rfl rfl rfl (by omega) (by omega) rfl rfl ?_|refine TL.orMW rfl rfl rfl rfl rfl (by omega) rfl rfl ?_|refine TL.orL rfl rfl rfl rfl rfl (by omega) rfl rfl ?_)|(refine TL.isShl ?_;first|refine TL.shlU rfl rfl rfl rfl rfl (by omega) rfl ?_|refine TL.shlW rfl rfl rfl rfl rfl rfl ?_)|(refine TL.isShr ?_;first|refine TL.shrU rfl rfl rfl rfl rfl rfl ?_)|(refine TL.isBin ?_;first|refine TL.pure rfl rfl ?_|refine TL.eqNil rfl rfl rfl ?_|refine TL.neNil rfl rfl rfl ?_)|(refine TL.isConv ?_;first|refine TL.convU rfl rfl (by omega) rfl ?_|refine TL.convI rfl (by omega) (by omega) rfl ?_|refine TL.convW rfl rfl rfl ?_)|(refine TL.isStore ?_;first|(refine TL.store1 rfl rfl yB (by exact rfl) (by exact rfl) (by exact rfl) ?_;intro w' hu hbk hsz)|(refine TL.storeWh rfl rfl yB (by exact rfl) (by exact rfl) (by exact rfl) ?_;intro w' hu hbk hsz)|(refine TL.storeN rfl rfl yB (by exact rfl) (by exact rfl) (by exact rfl) (by exact rfl) ?_;intro w' hu hbk hsz))|(refine TL.isBox ?_;first|(refine TL.box rfl rfl rfl ?_;intro bk w' hg hbk hsz hsz'))|(refine TL.isAlloc ?_;first|(refine TL.alloc rfl rfl ?_;intro bk w' hg hbk hsz hsz'))|(refine TL.isSlice ?_;first|refine TL.sliceArr rfl (bnd_lit rfl) (bnd_lit rfl) (by omega) (by omega) (by omega) rfl rfl ?_|refine TL.sliceArr rfl (bnd_none _) (bnd_lit rfl) (by omega) (by omega) (by omega) rfl rfl ?_|refine TL.sliceArr rfl (bnd_lit rfl) (bnd_none _) (by omega) (by omega) (by omega) rfl rfl ?_|refine TL.sliceArr rfl (bnd_none _) (bnd_none _) (by omega) (by omega) (by omega) rfl rfl ?_)|(refine TL.isBuild ?_;first|refine TL.build rfl rfl rfl ?_|refine TL.buildArr rfl rfl rfl ?_)|(refine TL.isNilC ?_;first|refine TL.nilCheck rfl rfl ?_)|(refine TL.isBuildS ?_;first|(refine TL.buildSlice0 rfl ?_;intro bk w' hg hbk hsz hsz'))|(refine TL.isCall ?_;first|refine TL.len_slice rfl rfl ?_|refine TL.min2 rfl rfl rfl ?_)|refine T.cond_true rfl ?_|refine T.cond_false rfl ?_|refine T.cond_yes rfl yD ?_|refine T.cond_no rfl yD ?_|refine T.ret ?_|refine T.skip ?_|refine T.exit ?_|refine thenQ_ret ?_|refine thenQ_exit ?_|refine blockQ_hit ?_|refine blockQ_miss rfl ?_|refine blockQ_ret ?_|refine loopQ_ret ?_|refine loopQ_exit ?_|refine TL.pure rfl rfl ?_)
  refine TL.call rfl (pick_c z 7 (by decide) (by decide) _) rfl ?_
  rintro _ _ ⟨⟨r,rfl,hr⟩,rfl⟩
  repeat (first|(refine TL.isGuard ?_;first|refine TL.guard_skip rfl rfl rfl ?_|refine TL.guard_run rfl rfl rfl ?_|refine TL.guard_yes rfl rfl yD rfl ?_|refine TL.guard_no rfl rfl yD rfl ?_)|(refine TL.isMove ?_;first|refine TL.pure rfl rfl ?_)|(refine TL.isAsg ?_;first|refine TL.pure rfl rfl ?_)|(refine TL.isLoad ?_;first|refine TL.load1 rfl yM rfl ?_|refine TL.loadW rfl yB (by exact rfl) rfl ?_|refine TL.loadN rfl yB (by exact rfl) (by exact rfl) rfl ?_)|(refine TL.isIndex ?_;first|refine TL.indexArr rfl rfl (by omega) rfl rfl ?_|refine TL.indexAt rfl rfl (by omega) rfl rfl ?_)|(refine TL.isField ?_;first|refine TL.fieldAddr rfl rfl ?_)|(refine TL.isAdd ?_;first|refine TL.addI rfl rfl (by omega) (by omega) rfl ?_|refine TL.addU rfl rfl rfl (by omega) rfl ?_|refine TL.addW rfl rfl rfl rfl ?_|refine TL.pure rfl rfl ?_)|(refine TL.isSub ?_;first|refine TL.subI rfl rfl (by omega) (by omega) rfl ?_|refine TL.subU rfl rfl rfl (by omega) (by omega) rfl ?_|refine TL.pure rfl rfl ?_)|(refine TL.isMul ?_;first|refine TL.mulI rfl rfl (by omega) (by omega) rfl ?_|refine TL.mulU rfl rfl rfl (by omega) rfl ?_|refine TL.mulW rfl rfl rfl rfl ?_|refine TL.pure rfl rfl ?_)|(refine TL.isAnd ?_;first|refine TL.andU rfl rfl rfl rfl (by omega) (by omega) rfl ?_)|refine TL.nil ?_|refine thenQ_normal ?_|refine T.seq ?_|refine T.region ?_|refine T.block ?_|refine blockQ_normal ?_|(refine TL.isOr ?_;first|refine TL.orM rfl rfl rfl rfl rfl (by omega) (by omega) rfl rfl ?_|refine TL.orMW rfl rfl rfl rfl rfl (by omega) rfl rfl ?_|refine TL.orL rfl rfl rfl rfl rfl (by omega) rfl rfl ?_)|(refine TL.isShl ?_;first|refine TL.shlU rfl rfl rfl rfl rfl (by omega) rfl ?_|refine TL.shlW rfl rfl rfl rfl rfl rfl ?_)|(refine TL.isShr ?_;first|refine TL.shrU rfl rfl rfl rfl rfl rfl ?_)|(refine TL.isBin ?_;first|refine TL.pure rfl rfl ?_|refine TL.eqNil rfl rfl rfl ?_|refine TL.neNil rfl rfl rfl ?_)|(refine TL.isConv ?_;first|refine TL.convU rfl rfl (by omega) rfl ?_|refine TL.convI rfl (by omega) (by omega) rfl ?_|refine TL.convW rfl rfl rfl ?_)|(refine TL.isStore ?_;first|(refine TL.store1 rfl rfl yB (by exact rfl) (by exact rfl) (by exact rfl) ?_;intro w' hu hbk hsz)|(refine TL.storeWh rfl rfl yB (by exact rfl) (by exact rfl) (by exact rfl) ?_;intro w' hu hbk hsz)|(refine TL.storeN rfl rfl yB (by exact rfl) (by exact rfl) (by exact rfl) (by exact rfl) ?_;intro w' hu hbk hsz))|(refine TL.isBox ?_;first|(refine TL.box rfl rfl rfl ?_;intro bk w' hg hbk hsz hsz'))|(refine TL.isAlloc ?_;first|(refine TL.alloc rfl rfl ?_;intro bk w' hg hbk hsz hsz'))|(refine TL.isSlice ?_;first|refine TL.sliceArr rfl (bnd_lit rfl) (bnd_lit rfl) (by omega) (by omega) (by omega) rfl rfl ?_|refine TL.sliceArr rfl (bnd_none _) (bnd_lit rfl) (by omega) (by omega) (by omega) rfl rfl ?_|refine TL.sliceArr rfl (bnd_lit rfl) (bnd_none _) (by omega) (by omega) (by omega) rfl rfl ?_|refine TL.sliceArr rfl (bnd_none _) (bnd_none _) (by omega) (by omega) (by omega) rfl rfl ?_)|(refine TL.isBuild ?_;first|refine TL.build rfl rfl rfl ?_|refine TL.buildArr rfl rfl rfl ?_)|(refine TL.isNilC ?_;first|refine TL.nilCheck rfl rfl ?_)|(refine TL.isBuildS ?_;first|(refine TL.buildSlice0 rfl ?_;intro bk w' hg hbk hsz hsz'))|(refine TL.isCall ?_;first|refine TL.len_slice rfl rfl ?_|refine TL.min2 rfl rfl rfl ?_)|refine T.cond_true rfl ?_|refine T.cond_false rfl ?_|refine T.cond_yes rfl yD ?_|refine T.cond_no rfl yD ?_|refine T.ret ?_|refine T.skip ?_|refine T.exit ?_|refine thenQ_ret ?_|refine thenQ_exit ?_|refine blockQ_hit ?_|refine blockQ_miss rfl ?_|refine blockQ_ret ?_|refine loopQ_ret ?_|refine loopQ_exit ?_|refine TL.pure rfl rfl ?_)
  exact ⟨rfl,r,hr,⟨rfl,trivial⟩,rfl⟩
theorem meets_c (z:Int) (w:World):Calls Tryz.prog QM #[.int .i64 z] w (Ret λ x w'=>x=.bool true∧Grow w w'):=by
  refine calls_code (fi:=fiQ) (ctxq_ok.fn QM fiQ fiQ_at) (xs:=[.int .i64 z]) λ fn hfn hres=>?_
  have hn:fiQ.n=205:=by kernel_rfl
  have p0:=pre0 z w
  unfold T at p0
  rw [body_eq]
  refine wpIn_seq (wpIn_wide.2 (wp_mono (p0 _ (by rw [← hn];exact fits_args [.int .i64 z] (by rw [hn];simp))) λ ex a1 w1 ⟨e1,hf1,hx,he1,hw1⟩=>?_))
  subst hx hw1
  have p1:=pre1 z w1
  unfold T at p1
  refine wpIn_seq (wpIn_wide.2 (wp_mono (p1 _ (hf1.sub he1)) λ ex a2 w2 ⟨e2,hf2,hx,he2,hg2⟩=>?_))
  subst hx
  have p3:=pre3 z w2
  unfold T at p3
  refine wpIn_seq (wpIn_wide.2 (wp_mono (p3 _ (hf2.sub he2)) λ ex a3 w3 ⟨e3,hf3,hx,r,hr,he3,hw3⟩=>?_))
  subst hx hw3
  show (cd [true,true,true]).wpIn (FR none) 0 Tryz.prog _ a3 w3
  have hA:At w1 fiQ.n (en0 (1+r)) .lf 0 a3 w3:=by
    rw [hn]
    refine At.start hGq hg2 (hf3.sub he3) λ t v ht=>?_
    rw [en0_get] at ht
    split at ht
    . rename_i e
      subst e
      cases ht
      refine ⟨_,rfl,.at _ _ ?_⟩
      have:=AR.int (ρ:=noPl) .i64 (1+r) (show 1+r<18446744073709551616 by omega)
      rwa [wrap_lo (k:=.i64) (show 1+r<9223372036854775808 by omega)] at this
    . cases ht
  have:r=0∨r=1∨r=2∨r=3∨r=4∨r=5∨r=6:=by omega
  rcases this with rfl|rfl|rfl|rfl|rfl|rfl|rfl
  . exact rest1 hres hA
  . exact rest2 hres hA
  . exact rest3 hres hA
  . exact rest4 hres hA
  . exact rest5 hres hA
  . exact rest6 hres hA
  . exact rest7 hres hA
end Go.Proofs.YtlmdfhkdeieceaaGreat
