import Derived.Test.YtfpadnmdafiddaaGreatDoorMf
import Derived.LaidEql
set_option linter.all false
set_option maxHeartbeats 16000000
set_option maxRecDepth 100000
namespace Go.V
open Go Go.RowKit
section
variable [Rn]
variable {P:Program} {n:Nat} {e:dQ} {w:World} {Q:dS} {ops:Array Oper} {rest:List Oper} {d:Nat} {ty:TypeId} {pos:String} {aft:Array Edge}
def ptrB (P:Program) (t:TypeId):Bool:=match P.underlying t with|some (.pointer el)=>(match P.info? el with|some i=>!(Nat.beq i.size 0)|none=>false)|_=>false
class PtrTy (P:Program) (t:TypeId):Prop where
 h:ptrB P t=true
theorem PtrTy.und {t:TypeId} (h:PtrTy P t):∃ el i,P.underlying t=some (.pointer el)∧P.info? el=some i∧i.size≠0:=by
 have h:=h.h
 unfold ptrB at h
 split at h
 ·rename_i el he
  split at h
  ·rename_i i hi
   refine ⟨el,i,he,hi,?_⟩
   intro h0
   rw [h0] at h
   cases h
  ·cases h
 ·cases h
theorem run_equalIn_nil (dp:Nat) {t:TypeId} (h:PtrTy P t) (a:Addr) (w:World):(Op.equalIn (dp+1) t (.pointer (some a)) (.pointer none)).run P w=.ok false w:=by
 obtain ⟨el,i,hu,hi,hs⟩:=h.und
 simp [Op.equalIn,underlying,hu]
theorem run_equalIn_same (dp:Nat) {t:TypeId} (h:PtrTy P t) (a:Addr) (w:World):(Op.equalIn (dp+1) t (.pointer (some a)) (.pointer (some a))).run P w=.ok true w:=by
 obtain ⟨el,i,hu,hi,hs⟩:=h.und
 simp [Op.equalIn,underlying,hu,sizeOf,typeInfo,hi,hs,run_sameAddr_same]
theorem TL.neNilP {t t2:TypeId} {x y:Operand} {a:Addr} [ht:PtrTy P t] (hx:val e x=some (.pointer (some a))) (hy:val e y=some (.pointer none)) (hd:Nat.blt d n=true)
  (k:TL P n ops rest ((d,.bool true)::e) w Q):TL P n ops (⟨some d,.binOp .neq t x y t2,ty,pos,aft,none⟩::rest) e w Q :=
 TL.run (λ r hr=>by
  have hg:eqGuard .neq t x y (.pointer (some a)) (.pointer none)=Pure.pure ():=rfl
  simp only [execOp,hr.eval hx,hr.eval hy,hg]
  simp only [binOp]
  simp [Op.equal,Op.maxDepth,run_equalIn_nil 9999 ht]) hd k
theorem TL.eqSame {t t2:TypeId} {x y:Operand} {a:Addr} [ht:PtrTy P t] (hx:val e x=some (.pointer (some a))) (hy:val e y=some (.pointer (some a))) (hd:Nat.blt d n=true)
  (k:TL P n ops rest ((d,.bool true)::e) w Q):TL P n ops (⟨some d,.binOp .eql t x y t2,ty,pos,aft,none⟩::rest) e w Q :=
 TL.run (λ r hr=>by
  have hg:eqGuard .eql t x y (.pointer (some a)) (.pointer (some a))=Pure.pure ():=rfl
  simp only [execOp,hr.eval hx,hr.eval hy,hg]
  simp only [binOp]
  simp [Op.equal,Op.maxDepth,run_equalIn_same 9999 ht]) hd k
theorem TL.guard_left {j s:Nat} {want:Bool} {op:Op} (hj:(ops[j]?).bind (·.dst)=some s) (hb:find e s=some undef) (hd:Nat.blt d n=true)
  (hf:TL P n ops rest ((d,undef)::e) w Q):TL P n ops (⟨some d,op,ty,pos,aft,some (j,want)⟩::rest) e w Q:=TL.mk λ a ha=>by
 have hy:(yielded ops a.tmps j==some want)=false:=by
  have h1:=ha.get s _ hb
  simp only [yielded,hj,Option.bind_some]
  rcases Nat.lt_or_ge s a.tmps.size with h|h
  ·have h2:a.tmps[s]? = some undef:=by
    simp [h] at h1
    simp [h,h1]
   rw [h2]
   rfl
  ·rw [Array.getElem?_eq_none h]
   rfl
 have hout:=hf.out (ha.put hd undef)
 unfold wpListIn
 simp only [Region.wanted,hy,Bool.false_eq_true,if_false]
 exact ⟨λ _ _=>trivial,hout⟩
end
end Go.V
namespace Go.Proofs.YtfpadnmdafiddaaGreatDoor
open Go Go.RowKit Go.V
instance:PtrTy Tryz.prog 302:=⟨by kernel_rfl⟩
def rdr (b:Nat) (a:Option Addr) (n c at' err:Nat):List Value:=[.pointer (some ⟨b,0,none⟩),.slice a n c,.int .i64 (at':Int),.int .i64 (err:Int)]
theorem made_c (b:Nat) (a:Option Addr) (n c at' err:Nat) (w:World) (hb:Blk w b 329 (rdr b a n c at' err)) :
  Calls Tryz.prog 257 #[.pointer (some ⟨b,0,none⟩)] w (Ret λ v w'=>v=.bool true∧w=w'):=by
 unfold rdr at hb
 refine V.calls (args:=[_]) Tryz.func257 rfl Tryz.ntmps257 rfl rfl ?_
 repeat (first|(refine dW 302 ?_;refine TL.neNilP rfl rfl rfl ?_)|(refine TL.isEqT 302 ?_;refine TL.eqSame rfl rfl rfl ?_)|refine aU rfl rfl rfl ?_|(refine aB ?_;refine TL.pure rfl rfl ?_)|(refine aD ?_;refine TL.pure rfl rfl ?_)|refine aK rfl yM rfl ?_|refine aF rfl rfl ?_|refine TL.nil ?_|refine aA ?_|refine aJ ?_|refine aC ?_|refine bM rfl rfl ?_|refine bE ?_|refine TL.pure rfl rfl ?_)
 exact cI rfl ⟨_,rfl,rfl,rfl⟩
theorem err_c (b:Nat) (a:Option Addr) (n c at' err:Nat) (w:World) (hb:Blk w b 329 (rdr b a n c at' err)) :
  Calls Tryz.prog 222 #[.pointer (some ⟨b,0,none⟩)] w (Ret λ v w'=>v=.int .i64 (err:Int)∧w=w'):=by
 refine V.calls (args:=[_]) Tryz.func222 rfl Tryz.ntmps222 rfl rfl ?_
 have hb2:=hb
 unfold rdr at hb2
 repeat (first|(refine aB ?_;refine TL.pure rfl rfl ?_)|(refine aD ?_;refine TL.pure rfl rfl ?_)|refine aK rfl yM rfl ?_|refine aF rfl rfl ?_|refine TL.nil ?_|refine aA ?_|refine aJ ?_|refine aC ?_|refine bM rfl rfl ?_|refine aE rfl ?_|refine bE ?_|refine aW ?_|refine TL.pure rfl rfl ?_|(refine aL 257 ?_;refine aI rfl (made_c b a n c at' err _ hb) rfl ?_;rintro _ _ ⟨rfl,rfl⟩))
 exact cI rfl ⟨_,rfl,rfl,rfl⟩
end Go.Proofs.YtfpadnmdafiddaaGreatDoor
namespace Go.V
open Go Go.RowKit
section
variable [Rn]
variable {P:Program} {n:Nat} {e:dQ} {w:World} {Q:dS} {ops:Array Oper} {rest:List Oper} {d:Nat} {ty:TypeId} {pos:String} {aft:Array Edge}
theorem TL.convZ {z z':Int} {s t:TypeId} {x:Operand} {k1 k2 kd:IntKind} [hs:IntTy P s k1] [ht:IntTy P t k2] (hx:val e x=some (.int kd z)) (h:k2.wrap z=z') (hd:Nat.blt d n=true)
  (k:TL P n ops rest ((d,.int k2 z')::e) w Q):TL P n ops (⟨some d,.convert s t x,ty,pos,aft,none⟩::rest) e w Q :=
 TL.run (λ r hr=>by simp [execOp,hr.eval hx,jB hs ht,h]) hd k
end
end Go.V
namespace Go.Proofs.YtfpadnmdafiddaaGreatDoor
open Go Go.RowKit Go.V
abbrev Mut (b:Nat) (w w':World):Prop:=w.grownBy w' (some b)
theorem jJ {b:Nat} {w w':World} (g:Grow w w'):Mut b w w':=⟨g.1.os,g.1.tape,g.1.output,g.2,λ k hk _=>g.block k hk⟩
theorem mut_upd {b:Nat} {w w':World} (u:Upd b w w'):Mut b w w':=⟨u.os,u.tape,u.output,Nat.le_of_eq u.size.symm,λ k _ hk=>u.block k (λ h=>hk (by rw [h]))⟩
theorem lC {F:Nat→Prop} {b sz n c:Nat} {a:Option Addr} {cs:List Value} {w w':World} (h:Sl F w sz a n c cs) (m:Mut b w w') (hF:¬ F b):Sl F w' sz a n c cs :=
 h.keep (λ k hk hk2=>m.block k hk2 (λ h=>hF (by cases h;exact hk))) m.size
theorem left_c (b:Nat) (a:Option Addr) (n c at' err:Nat) (w:World) (hb:Blk w b 329 (rdr b a n c at' err)) (hn:n≤9223372036854775807) (ha:at'≤n) :
  Calls Tryz.prog 225 #[.pointer (some ⟨b,0,none⟩)] w (Ret λ v w'=>v=.int .i64 ((n-at':Nat):Int)∧Grow w w'):=by
 refine V.calls (args:=[_]) Tryz.func225 rfl Tryz.ntmps225 rfl rfl ?_
 have hb2:=hb
 unfold rdr at hb2
 repeat (first|(refine aB ?_;refine TL.pure rfl rfl ?_)|(refine aD ?_;refine TL.pure rfl rfl ?_)|refine TL.nil ?_|refine aA ?_|refine aJ ?_|refine aC ?_|refine aE rfl ?_|refine aW ?_|refine TL.pure rfl rfl ?_|(refine aL 257 ?_;refine aI rfl (made_c b a n c at' err _ hb) rfl ?_;rintro _ _ ⟨rfl,rfl⟩))
 apply T.any 10 [is _,is _,is _,is _,is _,is _,is _,is _,is _,is _];(· kernel_rfl);(· ((repeat' (first|exact bW|refine bU ?_ ?_));(iterate 10 (· ((refine aR rfl rfl rfl ?_);( intro wq _ _ hgq;(repeat (refine aG rfl rfl ?_;intro vq hvq;try (obtain rfl:=hvq)));(refine aN ?_));(repeat (first|(refine aB ?_;refine TL.pure rfl rfl ?_)|refine aK rfl yM rfl ?_|refine aF rfl rfl ?_|(refine cN ?_;refine iT rfl rfl (by omega) (by omega) rfl ?_)|refine TL.nil ?_|refine bM rfl rfl ?_|refine aO rfl rfl ?_));exact aT rfl yG rfl)))));(rintro _ _ _ hgr _ _;(repeat (refine aG rfl rfl ?_;intro vq hvq;try (obtain rfl:=hvq)));(refine aN ?_))
 repeat (first|(refine aD ?_;refine TL.pure rfl rfl ?_)|refine TL.nil ?_|refine aA ?_|refine bE ?_)
 exact cI rfl ⟨_,rfl,congrArg (Value.int .i64) (by omega),yG⟩
theorem fail_c (b:Nat) (a:Option Addr) (n c at' err:Nat) (x y:Nat) (w:World) (hb:Blk w b 329 (rdr b a n c at' err)) :
  Calls Tryz.prog 259 #[.pointer (some ⟨b,0,none⟩),.int .i64 (x:Int),.int .i64 (y:Int)] w (Ret λ v w'=>Blk w' b 329 (rdr b a n c x y)∧Mut b w w'):=by
 refine V.calls (args:=[_,_,_]) Tryz.func259 rfl Tryz.ntmps259 rfl rfl ?_
 have hb2:=hb
 unfold rdr at hb2
 repeat (first|(refine aB ?_;refine TL.pure rfl rfl ?_)|refine aF rfl rfl ?_|refine TL.nil ?_|refine aA ?_|refine aJ ?_|refine aC ?_|(refine aP ?_;(refine bQ rfl rfl yB (by exact rfl) (by exact rfl) (by exact rfl) ?_;intro w' hu hbk hsz))|refine bM rfl rfl ?_)
 exact lT (vs:=[]) (by trivial) rfl ⟨_,rfl,hbk,mut_upd (by exact Upd.trans (by assumption) hu)⟩
theorem take_err (b:Nat) (a:Option Addr) (n c at' err m:Nat) (w:World) (hb:Blk w b 329 (rdr b a n c at' err)) (he:err≠0) :
  Calls Tryz.prog 256 #[.pointer (some ⟨b,0,none⟩),.int .u64 (m:Int)] w (Ret λ v w'=>v=.tuple #[.slice none 0 0,.bool false]∧w=w'):=by
 refine V.calls (args:=[_,_]) Tryz.func256 rfl Tryz.ntmps256 rfl rfl ?_
 have hb2:=hb
 unfold rdr at hb2
 repeat (first|refine aU rfl rfl rfl ?_|(refine aB ?_;refine TL.pure rfl rfl ?_)|(refine aD ?_;refine TL.pure rfl rfl ?_)|refine aK rfl yM rfl ?_|refine aF rfl rfl ?_|refine TL.nil ?_|refine aA ?_|refine aJ ?_|refine aC ?_|(refine aH ?_;refine TL.pure rfl rfl ?_)|refine bM rfl rfl ?_|refine fP rfl yD ?_|refine bE ?_|refine bI ?_|refine TL.pure rfl rfl ?_|(refine aL 257 ?_;refine aI rfl (made_c b a n c at' err _ hb) rfl ?_;rintro _ _ ⟨rfl,rfl⟩))
 exact jM rfl rfl ⟨_,rfl,rfl,rfl⟩
theorem take_no (b:Nat) (a:Option Addr) (n c at' m:Nat) (w:World) (hb:Blk w b 329 (rdr b a n c at' 0)) (hn:n≤9223372036854775807) (ha:at'≤n) (hm:n-at'<m) (hm2:m<18446744073709551616) :
  Calls Tryz.prog 256 #[.pointer (some ⟨b,0,none⟩),.int .u64 (m:Int)] w (Ret λ v w'=>v=.tuple #[.slice none 0 0,.bool false]∧Blk w' b 329 (rdr b a n c at' 5)∧Mut b w w'):=by
 refine V.calls (args:=[_,_]) Tryz.func256 rfl Tryz.ntmps256 rfl rfl ?_
 have hb2:=hb
 unfold rdr at hb2
 repeat (first|refine aU rfl rfl rfl ?_|(refine aB ?_;refine TL.pure rfl rfl ?_)|(refine aD ?_;refine TL.pure rfl rfl ?_)|refine aK rfl yM rfl ?_|refine aF rfl rfl ?_|refine TL.nil ?_|refine aA ?_|refine aJ ?_|refine aC ?_|(refine aH ?_;refine TL.pure rfl rfl ?_)|refine bM rfl rfl ?_|refine aE rfl ?_|refine aW ?_|refine TL.pure rfl rfl ?_|(refine aL 257 ?_;refine aI rfl (made_c b a n c at' 0 _ hb) rfl ?_;rintro _ _ ⟨rfl,rfl⟩))
 have hcv:IntKind.u64.wrap ((n:Int)-(at':Int))=((n-at':Nat):Int):=by
  rw [show (n:Int)-(at':Int)=((n-at':Nat):Int) by omega]
  exact fB (M:=18446744073709551616) rfl (by omega)
 apply T.any 13 [is _,is _,is _,is _,is _,is _,is _,is _,is _,is _,is _,is _,is _];(· kernel_rfl);(· ((repeat' (first|exact bW|refine bU ?_ ?_));(iterate 13 (· ((refine aR rfl rfl rfl ?_);( intro wq _ _ hgq;(repeat (refine aG rfl rfl ?_;intro vq hvq;try (obtain rfl:=hvq)));(refine aN ?_));(repeat (first|(refine aB ?_;refine TL.pure rfl rfl ?_)|refine aK rfl yM rfl ?_|refine aF rfl rfl ?_|(refine cN ?_;refine iT rfl rfl (by omega) (by omega) rfl ?_)|refine TL.nil ?_|(refine aH ?_;refine TL.pure rfl rfl ?_)|refine bM rfl rfl ?_|refine aO rfl rfl ?_|refine TL.convZ rfl hcv rfl ?_));exact aT rfl yG rfl)))));(rintro _ _ _ hgr _ _;(repeat (refine aG rfl rfl ?_;intro vq hvq;try (obtain rfl:=hvq)));(refine aN ?_))
 repeat (first|(refine aB ?_;refine TL.pure rfl rfl ?_)|(refine aD ?_;refine TL.pure rfl rfl ?_)|refine aF rfl rfl ?_|refine TL.nil ?_|refine aA ?_|refine aJ ?_|refine aC ?_|(refine aP ?_;(refine bQ rfl rfl yB (by exact rfl) (by exact rfl) (by exact rfl) ?_;intro w' hu hbk hsz))|refine bM rfl rfl ?_|refine fP rfl yD ?_|refine bE ?_|refine bI ?_)
 exact jM rfl rfl ⟨_,rfl,rfl,hbk,(jJ hgr).trans (mut_upd hu)⟩
theorem take_yes (F:Nat→Prop) (b:Nat) (a:Option Addr) (n c at' m:Nat) (l:List Nat) (w:World) (hb:Blk w b 329 (rdr b a n c at' 0)) (hs:Sl F w 1 a n c (cX l)) (hF:¬ F b) (hn:n≤9223372036854775807) (ha:at'≤n) (hm:m≤n-at') :
  Calls Tryz.prog 256 #[.pointer (some ⟨b,0,none⟩),.int .u64 (m:Int)] w (Ret λ v w'=>∃ a' c',v=.tuple #[.slice a' m c',.bool true]∧Sl F w' 1 a' m c' (cX ((l.drop at').take m))∧Blk w' b 329 (rdr b a n c (at'+m) 0)∧Mut b w w'):=by
 refine V.calls (args:=[_,_]) Tryz.func256 rfl Tryz.ntmps256 rfl rfl ?_
 have hb2:=hb
 unfold rdr at hb2
 have hcv:IntKind.u64.wrap ((n:Int)-(at':Int))=((n-at':Nat):Int):=by
  rw [show (n:Int)-(at':Int)=((n-at':Nat):Int) by omega]
  exact fB (M:=18446744073709551616) rfl (by omega)
 repeat (first|refine aU rfl rfl rfl ?_|(refine aB ?_;refine TL.pure rfl rfl ?_)|(refine aD ?_;refine TL.pure rfl rfl ?_)|refine aK rfl yM rfl ?_|refine aF rfl rfl ?_|refine TL.nil ?_|refine aA ?_|refine aJ ?_|refine aC ?_|(refine aH ?_;refine TL.pure rfl rfl ?_)|refine bM rfl rfl ?_|refine aE rfl ?_|refine aW ?_|refine TL.pure rfl rfl ?_|(refine aL 257 ?_;refine aI rfl (made_c b a n c at' 0 _ hb) rfl ?_;rintro _ _ ⟨rfl,rfl⟩))
 apply T.any 13 [is _,is _,is _,is _,is _,is _,is _,is _,is _,is _,is _,is _,is _];(· kernel_rfl);(· ((repeat' (first|exact bW|refine bU ?_ ?_));(iterate 13 (· ((refine aR rfl rfl rfl ?_);( intro wq _ _ hgq;(repeat (refine aG rfl rfl ?_;intro vq hvq;try (obtain rfl:=hvq)));(refine aN ?_));(repeat (first|(refine aB ?_;refine TL.pure rfl rfl ?_)|refine aK rfl yM rfl ?_|refine aF rfl rfl ?_|(refine cN ?_;refine iT rfl rfl (by omega) (by omega) rfl ?_)|refine TL.nil ?_|(refine aH ?_;refine TL.pure rfl rfl ?_)|refine bM rfl rfl ?_|refine aO rfl rfl ?_|refine TL.convZ rfl hcv rfl ?_));exact aT rfl yG rfl)))));(rintro _ _ _ hgr _ _;(repeat (refine aG rfl rfl ?_;intro vq hvq;try (obtain rfl:=hvq)));(refine aN ?_))
 repeat (first|(refine cR ?_;refine lQ rfl (by omega) rfl ?_)|(refine bL ?_;refine bT rfl rfl (by omega) rfl ?_)|(refine aB ?_;refine TL.pure rfl rfl ?_)|(refine aD ?_;refine TL.pure rfl rfl ?_)|refine aK rfl yM rfl ?_|refine aF rfl rfl ?_|refine TL.nil ?_|refine aA ?_|refine aJ ?_|refine aC ?_|(refine aP ?_;(refine bQ rfl rfl yB (by exact rfl) (by exact rfl) (by exact rfl) ?_;intro w' hu hbk hsz))|refine bM rfl rfl ?_|refine gO rfl yD ?_|refine aW ?_)
 have hs8:=(hs.grow hgr).upd hu (λ k hk h=>hF (h▸hk))
 have hbk8:Blk w' b 329 [.pointer (some ⟨b,0,none⟩),.slice a n c,.int .i64 ((at'+m:Nat):Int),.int .i64 0]:=hbk
 apply T.any 10 [is _,is _,is _,is _,is _,is _,is _,is _,is _,slF F 1 m (c-at') (cX ((l.drop at').take m))]
 ·rfl
 ·repeat' (first|exact bW|refine bU ?_ ?_)
  iterate 9
   ·(refine aR rfl rfl rfl ?_);( intro wq _ _ hgq;(repeat (refine aG rfl rfl ?_;intro vq hvq;try (obtain rfl:=hvq)));(refine aN ?_))
    repeat (first|(refine aB ?_;refine TL.pure rfl rfl ?_)|refine aK rfl yM rfl ?_|refine aF rfl rfl ?_|refine TL.nil ?_|refine bM rfl rfl ?_)
    exact aT rfl yG rfl
  ·(refine aR rfl rfl rfl ?_);( intro wq _ _ hgq;(repeat (refine aG rfl rfl ?_;intro vq hvq;try (obtain rfl:=hvq)));(refine aN ?_))
   refine TL.slice (l:=at') (h:=at'+m) (mm:=c) rfl (hs8.grow hgq) (dT rfl rfl) (dT rfl rfl) (cA c) (by intro h;cases h) (by omega) (by omega) (by have:=hs.cap;omega) (Nat.le_refl _) rfl ?_
   intro a' hsl _
   repeat (refine TL.nil ?_)
   rw [show at'+m-at'=m by omega] at hsl ⊢
   exact aT rfl yG ⟨a',rfl,by simpa [cX,List.map_take,List.map_drop] using hsl⟩
 ·intro w6 lo6 hi6 hg6 hspan6 hapart6
  ((repeat (refine aG rfl rfl ?_;intro vq hvq;try (obtain rfl:=hvq)));(refine aN ?_))
  obtain ⟨a',rfl,hsl⟩:=hvq
  repeat (first|(refine aD ?_;refine TL.pure rfl rfl ?_)|refine TL.nil ?_|refine aA ?_|refine bE ?_)
  exact jM rfl rfl ⟨_,rfl,a',_,rfl,hsl,hbk8.grow hg6,((jJ hgr).trans (mut_upd hu)).trans (jJ hg6)⟩
end Go.Proofs.YtfpadnmdafiddaaGreatDoor
namespace Go.V
open Go Go.RowKit
section
variable [Rn]
variable {P:Program} {n:Nat} {e:dQ} {w:World} {Q:dS} {ops:Array Oper} {rest:List Oper} {d:Nat} {ty:TypeId} {pos:String} {aft:Array Edge}
theorem notB:∀ a:Fin 256,Op.intBits .xor .u8 255 (a.1:Int)=(Pure.pure (.int .u8 ((255-a.1:Nat):Int)):Sem Value):=by
 have h:∀ a:Fin 256,(BitVec.ofInt 8 255 ^^^ BitVec.ofInt 8 (a.1:Int)).toNat=255-a.1:=by decide +kernel
 intro a
 have ha:=a.2
 have h2:=h a
 have e2:=fB (kd:=.u8) (M:=256) rfl (show 255-a.1<256 by omega)
 rw [← h2] at e2 ⊢
 simp only [Op.intBits]
 show Pure.pure (Value.int .u8 (IntKind.u8.wrap ((BitVec.ofInt 8 255 ^^^ BitVec.ofInt 8 (a.1:Int)).toNat:Int)))=_
 rw [e2]
theorem TL.notB {x:Operand} {a:Nat} {t1:TypeId} (hx:val e x=some (.int .u8 (a:Int))) (ha:a<256) (hd:Nat.blt d n=true)
  (k:TL P n ops rest ((d,.int .u8 ((255-a:Nat):Int))::e) w Q):TL P n ops (⟨some d,.unOp .xor t1 x,ty,pos,aft,none⟩::rest) e w Q :=
 TL.run (λ r hr=>by
  have h:Op.unary .xor (.int .u8 (a:Int))=(Pure.pure (.int .u8 ((255-a:Nat):Int)):Sem Value):=V.notB ⟨a,ha⟩
  simp only [execOp,hr.eval hx,h]
  rfl) hd k
theorem TL.isUn {u:UnOp} {x:Operand} {t1:TypeId} {d:Option Nat} (h:TL P n ops (⟨d,.unOp u t1 x,ty,pos,aft,none⟩::rest) e w Q):TL P n ops (⟨d,.unOp u t1 x,ty,pos,aft,none⟩::rest) e w Q:=h
theorem TL.shrB {x y:Operand} {a s:Nat} {ky:IntKind} {t1 t2:TypeId} {zx zy:Int} (hx:val e x=some (.int .u8 zx)) [ix:Lit zx a] (hy:val e y=some (.int ky zy)) [iy:Lit zy s] (ha:a<256) (hd:Nat.blt d n=true)
  (k:TL P n ops rest ((d,.int .u8 ((a / 2^s:Nat):Int))::e) w Q):TL P n ops (⟨some d,.binOp .shr t1 x y t2,ty,pos,aft,none⟩::rest) e w Q :=
 TL.run (λ r hr=>by
  rw [ix.h] at hx;rw [iy.h] at hy
  have h4:¬ ((s:Int)<0):=by omega
  have e1:(a:Int).fdiv (2^(min s 8))=((a / 2^s:Nat):Int):=by
   rw [Int.fdiv_eq_ediv_of_nonneg _ (by exact_mod_cast Nat.zero_le (2^(min s 8)))]
   have:a / 2^(min s 8)=a / 2^s:=by
    rcases Nat.lt_or_ge s 8 with h|h
    ·rw [Nat.min_eq_left (by omega)]
    ·rw [Nat.min_eq_right h,Nat.div_eq_of_lt ha,Nat.div_eq_of_lt (Nat.lt_of_lt_of_le ha (Nat.pow_le_pow_right (n:=2) (by decide) h))]
   rw [← this]
   simp
  have h3:IntKind.u8.bits=8:=rfl
  simp only [execOp,binOp,cB,Op.shift,hr.eval hx,hr.eval hy]
  simp [h3,h4,e1]) hd k
end
end Go.V
namespace Go.Proofs.YtfpadnmdafiddaaGreatDoor
open Go Go.RowKit Go.V
def cnt (f:Nat):Nat:=8-bl (255-f)+1
def kF (v c:Nat):Nat:=v*256%18446744073709551616+c
def gP:List Nat→Nat×Nat×Nat
 | []=>(0,0,5)
 | f::t=>if t.length<cnt f-1 then (0,0,5) else
  if sz ((t.take (cnt f-1)).foldl kF (f&&&(255 / 2^cnt f)))=cnt f then ((t.take (cnt f-1)).foldl kF (f&&&(255 / 2^cnt f)),cnt f,0) else (0,0,4)
theorem rnum_err (b:Nat) (a:Option Addr) (n c at' err:Nat) (w:World) (hb:Blk w b 329 (rdr b a n c at' err)) (he:err≠0) :
  Calls Tryz.prog 258 #[.pointer (some ⟨b,0,none⟩)] w (Ret λ v w'=>v=.int .u64 0∧w=w'):=by
 refine V.calls (args:=[_]) Tryz.func258 rfl Tryz.ntmps258 rfl rfl ?_
 repeat (first|(refine aB ?_;refine TL.pure rfl rfl ?_)|(refine aD ?_;refine TL.pure rfl rfl ?_)|refine TL.nil ?_|refine aA ?_|refine aJ ?_|refine aC ?_|refine aM rfl ?_|refine bE ?_|refine bI ?_|refine TL.pure rfl rfl ?_|(refine aL 256 ?_;refine aI rfl (take_err b a n c at' err 1 _ hb he) rfl ?_;rintro _ _ ⟨rfl,rfl⟩))
 exact cI rfl ⟨_,rfl,rfl,rfl⟩
theorem rnum_none (b:Nat) (a:Option Addr) (n c:Nat) (w:World) (hb:Blk w b 329 (rdr b a n c n 0)) (hn:n≤9223372036854775807) :
  Calls Tryz.prog 258 #[.pointer (some ⟨b,0,none⟩)] w (Ret λ v w'=>v=.int .u64 0∧Blk w' b 329 (rdr b a n c n 5)∧Mut b w w'):=by
 refine V.calls (args:=[_]) Tryz.func258 rfl Tryz.ntmps258 rfl rfl ?_
 repeat (first|(refine aB ?_;refine TL.pure rfl rfl ?_)|(refine aD ?_;refine TL.pure rfl rfl ?_)|refine TL.nil ?_|refine aA ?_|refine aJ ?_|refine aC ?_)
 refine aI rfl (take_no b a n c n 1 _ hb hn (Nat.le_refl _) (by omega) (by omega)) rfl ?_
 rintro _ w2 ⟨rfl,hb2,hm2⟩
 repeat (first|(refine aB ?_;refine TL.pure rfl rfl ?_)|(refine aD ?_;refine TL.pure rfl rfl ?_)|refine TL.nil ?_|refine aA ?_|refine aJ ?_|refine aC ?_|refine aM rfl ?_|refine bE ?_|refine bI ?_|refine TL.pure rfl rfl ?_)
 exact cI rfl ⟨_,rfl,rfl,hb2,hm2⟩
theorem fold_lt:∀ (R:List Nat) (v:Nat),v<18446744073709551616→(∀ x∈R,x<256)→R.foldl kF v<18446744073709551616
 | [],v,hv,_=>hv
 | x::R,v,hv,h=>fold_lt R (kF v x) (by have:=h x (by simp);unfold kF;omega) (λ y hy=>h y (List.mem_cons_of_mem _ hy))
theorem cnt_bd {f:Nat}:1≤cnt f∧cnt f≤9:=by unfold cnt;omega
theorem rnum_some (F:Nat→Prop) (b:Nat) (a:Option Addr) (n c at':Nat) (l:List Nat) (f:Nat) (t:List Nat) (w:World) (hb:Blk w b 329 (rdr b a n c at' 0)) (hs:Sl F w 1 a n c (cX l)) (hF:¬ F b) (hn:n≤4611686018427387904)
  (ha:at'≤n) (hl:∀ x∈l,x<256) (hd:l.drop at'=f::t) :
  Calls Tryz.prog 258 #[.pointer (some ⟨b,0,none⟩)] w (Ret λ v w'=>v=.int .u64 ((gP (f::t)).1:Int)∧Blk w' b 329 (rdr b a n c (at'+(gP (f::t)).2.1) (gP (f::t)).2.2)∧Mut b w w'):=by
 have hlen:l.length=n:=by have:=hs.len;simpa [cX] using this
 have hdl:t.length+1=n-at':=by have:=congrArg List.length hd;simp at this;omega
 have hf:f<256:=hl f (List.mem_of_mem_drop (i:=at') (by rw [hd];simp))
 have hcb:=cnt_bd (f:=f)
 refine V.calls (args:=[_]) Tryz.func258 rfl Tryz.ntmps258 rfl rfl ?_
 repeat (first|(refine aB ?_;refine TL.pure rfl rfl ?_)|(refine aD ?_;refine TL.pure rfl rfl ?_)|refine TL.nil ?_|refine aA ?_|refine aJ ?_|refine aC ?_)
 refine aI rfl (take_yes F b a n c at' 1 l _ hb hs hF (by omega) ha (by omega)) rfl ?_
 rintro _ w2 ⟨a2,c2,rfl,hsl2,hb2,hm2⟩
 have e2:(l.drop at').take 1=[f]:=by rw [hd];rfl
 rw [e2] at hsl2
 have hcell:=hsl2.row.cell (j:=0) (v:=.int .u8 (f:Int)) rfl
 have hb2':=hb2
 unfold rdr at hb2'
 repeat (first|(refine TL.isUn ?_;refine TL.notB rfl hf rfl ?_)|(refine cN ?_;refine dN rfl rfl (by omega) (by omega) rfl ?_)|(refine bL ?_;refine bT rfl rfl (by omega) rfl ?_)|(refine aB ?_;refine TL.pure rfl rfl ?_)|(refine aD ?_;refine TL.pure rfl rfl ?_)|refine aK rfl yM rfl ?_|refine aF rfl rfl ?_|refine TL.nil ?_|refine aA ?_|refine aJ ?_|refine aC ?_|(refine cR ?_;refine eQ rfl rfl (by omega) rfl ?_)|refine bM rfl rfl ?_|refine aE rfl ?_|refine aW ?_|refine TL.pure rfl rfl ?_|(refine aV (j:=0) rfl rfl rfl (by omega) (Nat.mul_one _) ⟨_,_,hsl2⟩ rfl ?_)|(refine aL 273 ?_;refine aI rfl (lz8_c (255-f) (by omega) _) rfl ?_;rintro _ _ ⟨rfl,rfl⟩))
 rw [show 8-bl (255-f)+1=cnt f from rfl]
 by_cases hshort:t.length<cnt f-1
 ·have en:gP (f::t)=(0,0,5):=by simp only [gP,if_pos hshort]
  rw [en]
  refine aI rfl (take_no b a n c (at'+1) (cnt f-1) _ hb2 (by omega) (by omega) (by omega) (by omega)) rfl ?_
  rintro _ w3 ⟨rfl,hb3,hm3⟩
  have hb3':=hb3
  unfold rdr at hb3'
  rw [show at'+1-1=at' by omega]
  repeat (first|(refine aB ?_;refine TL.pure rfl rfl ?_)|(refine aD ?_;refine TL.pure rfl rfl ?_)|refine aK rfl yM rfl ?_|refine aF rfl rfl ?_|refine TL.nil ?_|refine aA ?_|refine aJ ?_|refine aC ?_|refine bM rfl rfl ?_|refine aM rfl ?_|refine TL.pure rfl rfl ?_)
  refine aI rfl (fail_c b a n c (at'+1) 5 at' 5 _ hb3) rfl ?_
  rintro _ w4 ⟨hb4,hm4⟩
  repeat (first|(refine aD ?_;refine TL.pure rfl rfl ?_)|refine TL.nil ?_|refine aA ?_|refine aJ ?_|refine aC ?_|refine bE ?_|refine bI ?_)
  exact cI rfl ⟨_,rfl,rfl,hb4,(hm2.trans hm3).trans hm4⟩
 have en:gP (f::t)=if sz ((t.take (cnt f-1)).foldl kF (f&&&(255 / 2^cnt f)))=cnt f then ((t.take (cnt f-1)).foldl kF (f&&&(255 / 2^cnt f)),cnt f,0) else (0,0,4):=by simp only [gP,if_neg hshort]
 rw [en]
 clear en
 refine aI rfl (take_yes F b a n c (at'+1) (cnt f-1) l _ hb2 (lC hs hm2 hF) hF (by omega) (by omega) (by omega)) rfl ?_
 rintro _ w3 ⟨a3,c3,rfl,hsl3,hb3,hm3⟩
 have e3:l.drop (at'+1)=t:=by rw [← List.drop_drop,hd];rfl
 rw [e3] at hsl3
 have hlt:∀ x∈t,x<256:=λ x hx=>hl x (List.mem_of_mem_drop (i:=at') (by rw [hd];exact List.mem_cons_of_mem _ hx))
 have hcell3:w3.cell? (V.at' a2 0)=some (.int .u8 (f:Int)):=(lC hsl2 hm3 hF).row.cell (j:=0) (v:=.int .u8 (f:Int)) rfl
 have hsl23:=lC hsl2 hm3 hF
 generalize hT:t.take (cnt f-1)=R at hsl3 ⊢
 have hTl:R.length=cnt f-1:=by rw [← hT];simp;omega
 have hT2:∀ x∈R,x<256:=λ x hx=>hlt x (List.mem_of_mem_take (by rw [hT];exact hx))
 generalize hk:cnt f=k at *
 clear hd hT hlt
 rw [show at'+1-1=at' by omega]
 repeat (first|(refine aB ?_;refine TL.pure rfl rfl ?_)|(refine aD ?_;refine TL.pure rfl rfl ?_)|refine TL.nil ?_|refine aA ?_|refine aJ ?_|refine aC ?_|refine aE rfl ?_|refine aW ?_|refine TL.pure rfl rfl ?_)
 apply T.any 7 [is _,is _,is _,is _,is _,is _,is _]
 ·rfl
 ·repeat' (first|exact bW|refine bU ?_ ?_)
  ·(refine aR rfl rfl rfl ?_);( intro wq _ _ hgq;(repeat (refine aG rfl rfl ?_;intro vq hvq;try (obtain rfl:=hvq)));(refine aN ?_))
   repeat (first|(refine aB ?_;refine TL.pure rfl rfl ?_)|refine TL.nil ?_)
   exact aT rfl yG rfl
  ·(refine aR rfl rfl rfl ?_);( intro wq _ _ hgq;(repeat (refine aG rfl rfl ?_;intro vq hvq;try (obtain rfl:=hvq)));(refine aN ?_))
   repeat (first|refine TL.nil ?_|(refine aV (j:=0) rfl rfl rfl (by omega) (Nat.mul_one _) ⟨_,_,hsl23.grow (by assumption)⟩ rfl ?_))
   exact aT rfl yG rfl
  ·(refine aR rfl rfl rfl ?_);( intro wq _ _ hgq;(repeat (refine aG rfl rfl ?_;intro vq hvq;try (obtain rfl:=hvq)));(refine aN ?_))
   have hc4:=cell_grow hgq hcell3
   repeat (first|refine aK rfl yM rfl ?_|refine TL.nil ?_)
   exact aT rfl yG rfl
  ·(refine aR rfl rfl rfl ?_);( intro wq _ _ hgq;(repeat (refine aG rfl rfl ?_;intro vq hvq;try (obtain rfl:=hvq)));(refine aN ?_))
   repeat (first|(refine aB ?_;refine TL.pure rfl rfl ?_)|refine TL.nil ?_)
   exact aT rfl yG rfl
  ·(refine aR rfl rfl rfl ?_);( intro wq _ _ hgq;(repeat (refine aG rfl rfl ?_;intro vq hvq;try (obtain rfl:=hvq)));(refine aN ?_))
   repeat (first|(refine fZ ?_;refine TL.shrB (a:=255) rfl rfl (by omega) rfl ?_)|refine TL.nil ?_)
   exact aT rfl yG rfl
  ·(refine aR rfl rfl rfl ?_);( intro wq _ _ hgq;(repeat (refine aG rfl rfl ?_;intro vq hvq;try (obtain rfl:=hvq)));(refine aN ?_))
   repeat (first|(refine TL.isAnd ?_;refine TL.andB rfl rfl hf (Nat.lt_of_le_of_lt (Nat.div_le_self _ _) (by decide)) rfl ?_)|refine TL.nil ?_)
   exact aT rfl yG rfl
  ·(refine aR rfl rfl rfl ?_);( intro wq _ _ hgq;(repeat (refine aG rfl rfl ?_;intro vq hvq;try (obtain rfl:=hvq)));(refine aN ?_))
   repeat (first|(refine cR ?_;refine eQ rfl (M:=18446744073709551616) rfl (Nat.lt_of_le_of_lt Nat.and_le_left (by omega)) rfl ?_)|refine TL.nil ?_)
   exact aT rfl yG rfl
 intro w4 lo4 hi4 hg4 hspan4 hapart4
 ((repeat (refine aG rfl rfl ?_;intro vq hvq;try (obtain rfl:=hvq)));(refine aN ?_))
 repeat (first|(refine aB ?_;refine TL.pure rfl rfl ?_)|(refine aD ?_;refine TL.pure rfl rfl ?_)|refine TL.nil ?_|refine aA ?_|refine aJ ?_|refine aC ?_|refine T.block ?_|refine aO rfl rfl ?_)
 refine cU (S:=Nat) (λ q=>[(55,.int .i64 (q:Int)),(54,.int .i64 ((k-1:Nat):Int)),(53,.slice a3 (k-1) c3),(8,.int .u64 (((R.take q).foldl kF (f&&&255 / 2^k):Nat):Int)),(6,.int .i64 (k:Int)),(5,.int .i64 (at':Int)),(0,.pointer (some ⟨b,0,none⟩))])
  (λ q v=>q≤k-1∧Grow w3 v) (λ q=>k-1-q) 0 ⟨rfl,rfl,rfl,rfl,rfl,rfl,rfl,trivial⟩ ⟨Nat.zero_le _,hg4⟩ ?_
 rintro q w5 ⟨hq,hg5⟩
 have hb5:=hb3.grow hg5
 by_cases hqk:q<k-1
 ·have hR:R[q]? = some (R.getD q 0):=by rw [List.getD_eq_getElem?_getD,List.getElem?_eq_getElem (by omega)];rfl
  have hx:R.getD q 0<256:=hT2 _ (List.mem_of_getElem? hR)
  have htk:R.take (q+1)=R.take q++[R.getD q 0]:=by rw [List.take_add_one,hR];rfl
  generalize R.getD q 0=x at *
  have hsl5:=hsl3.grow hg5
  have hcell5:=hsl5.row.cell (j:=q) (v:=.int .u8 (x:Int)) (by simp [cX,hR])
  repeat (first|(refine TL.isShl ?_;refine TL.shlW rfl rfl (M:=18446744073709551616) (p:=256) rfl rfl rfl rfl ?_)|(refine cR ?_;refine eQ rfl (M:=18446744073709551616) rfl (by omega) rfl ?_)|(refine TL.isOr ?_;refine TL.orL (m:=256) rfl rfl (M:=18446744073709551616) rfl rfl rfl hx rfl rfl ?_)|(refine aB ?_;refine TL.pure rfl rfl ?_)|(refine aD ?_;refine TL.pure rfl rfl ?_)|refine aK rfl yM rfl ?_|(refine bL ?_;refine TL.addI rfl rfl (by omega) (by omega) rfl ?_)|refine TL.nil ?_|refine aA ?_|refine aJ ?_|refine aC ?_|refine T.block ?_|refine aS ?_|(refine aH ?_;refine TL.pure rfl rfl ?_)|refine fP rfl yD ?_|refine aW ?_|(refine aV (j:=q) rfl rfl rfl (by omega) (Nat.mul_one _) ⟨_,_,hsl5⟩ rfl ?_))
  exact bG (q+1) ⟨rfl,rfl,rfl,by rw [htk,List.foldl_append];rfl,rfl,rfl,rfl,trivial⟩ ⟨by omega,hg5⟩ (by omega)
 ·obtain rfl:q=k-1:=by omega
  rw [List.take_of_length_le (by omega)]
  have hV:=fold_lt R (f&&&255 / 2^k) (Nat.lt_of_le_of_lt Nat.and_le_left (by omega)) hT2
  generalize R.foldl kF (f&&&255 / 2^k)=V at hV ⊢
  have hsv:=sz_le V
  have hmm:Mut b w w5:=(hm2.trans hm3).trans (jJ hg5)
  by_cases hz:sz V=k
  ·rw [if_pos hz]
   repeat (first|(refine aB ?_;refine TL.pure rfl rfl ?_)|(refine aD ?_;refine TL.pure rfl rfl ?_)|refine TL.nil ?_|refine aA ?_|refine aJ ?_|refine aC ?_|(refine aH ?_;refine TL.pure rfl rfl ?_)|refine gO rfl yD ?_|refine bE ?_|refine aW ?_|refine cV ?_|refine bN ?_|refine bP ?_|refine bO ?_|(refine aL 233 ?_;refine aI rfl (size_c V hV _) rfl ?_;rintro _ _ ⟨rfl,rfl⟩))
   refine cI rfl ⟨_,rfl,rfl,?_,hmm⟩
   rw [show at'+1+(k-1)=at'+k by omega] at hb5
   exact hb5
  ·rw [if_neg hz]
   repeat (first|(refine aB ?_;refine TL.pure rfl rfl ?_)|refine TL.nil ?_|refine aA ?_|refine aJ ?_|refine aC ?_|(refine aH ?_;refine TL.pure rfl rfl ?_)|refine fP rfl yD ?_|refine gO rfl yD ?_|refine cV ?_|refine bN ?_|refine bP ?_|refine bO ?_|(refine aL 233 ?_;refine aI rfl (size_c V hV _) rfl ?_;rintro _ _ ⟨rfl,rfl⟩))
   refine aI rfl (fail_c b a n c (at'+1+(k-1)) 0 at' 4 _ hb5) rfl ?_
   rintro _ w6 ⟨hb6,hm6⟩
   repeat (first|(refine aD ?_;refine TL.pure rfl rfl ?_)|refine TL.nil ?_|refine aA ?_|refine aJ ?_|refine aC ?_|refine bE ?_|refine bI ?_)
   exact cI rfl ⟨_,rfl,rfl,hb6,hmm.trans hm6⟩
end Go.Proofs.YtfpadnmdafiddaaGreatDoor
namespace Go.Proofs.YtfpadnmdafiddaaGreatDoor
theorem head_fact:∀ (s:Fin 10) (low:Fin 256),1≤s.1→low.1<2^(8-s.1) →
  cnt ((255*2^(9-s.1)%256)|||low.1)=s.1∧((255*2^(9-s.1)%256)|||low.1)&&&(255 / 2^s.1)=low.1:=by decide +kernel
theorem head_back:∀ f:Fin 256,(255*2^(9-cnt f.1)%256)|||(f.1&&&(255 / 2^cnt f.1))=f.1∧f.1&&&(255 / 2^cnt f.1)<2^(8-cnt f.1):=by decide +kernel
theorem p256 (j:Nat):2^(8*(j+1))=2^(8*j)*256:=by rw [show 8*(j+1)=8*j+8 by omega,Nat.pow_add]
theorem fold_big {n:Nat} (hn:n<18446744073709551616):∀ j,(big n j).foldl kF (n / 2^(8*j))=n
 | 0=>by simp [big]
 | j+1=>by
  have h:=fold_big hn j
  simp only [big,List.foldl_cons]
  have hx:n / 2^(8*j)≤n:=Nat.div_le_self _ _
  have e:kF (n / 2^(8*(j+1))) (n / 2^(8*j)%256)=n / 2^(8*j):=by
   unfold kF
   rw [p256,← Nat.div_div_eq_div_mul]
   generalize n / 2^(8*j)=x at *
   omega
  rw [e]
  exact h
theorem lt_of_bl {a k:Nat} (h:bl a≤k):a<2^k:=by
 rcases Nat.lt_or_ge a (2^k) with h1|h1
 ·exact h1
 ·have:=bl_gt h1;omega
theorem low_lt {n:Nat} (hn:n<18446744073709551616):n / 2^(8*(sz n-1))<2^(8-sz n):=by
 have hs:=sz_le n
 have hb:bl n≤64:=bl_le (by show n<18446744073709551616;exact hn)
 have hlt:=lt_of_bl (Nat.le_refl (bl n))
 rw [Nat.div_lt_iff_lt_mul (Nat.two_pow_pos _),← Nat.pow_add]
 refine Nat.lt_of_lt_of_le hlt (Nat.pow_le_pow_right (by decide) ?_)
 unfold sz at *
 omega
theorem numV_enc {n:Nat} (hn:n<18446744073709551616) (r:List Nat):gP (encL n++r)=(n,sz n,0):=by
 have hs:=sz_le n
 have hl:=low_lt hn
 have hl2:n / 2^(8*(sz n-1))<256:=Nat.lt_of_lt_of_le hl (by rw [show (256:Nat)=2^8 by decide];exact Nat.pow_le_pow_right (by decide) (by omega))
 obtain ⟨h1,h2⟩:=head_fact ⟨sz n,by omega⟩ ⟨_,hl2⟩ hs.1 hl
 simp only at h1 h2
 have eh:head1 n (sz n)=(255*2^(9-sz n)%256)|||(n / 2^(8*(sz n-1))):=by unfold head1;rw [Nat.mod_eq_of_lt hl2]
 have hlen:=length_big n (sz n-1)
 simp only [encL,List.cons_append,gP,eh,h1]
 rw [if_neg (by simp [hlen])]
 have et:(big n (sz n-1)++r).take (sz n-1)=big n (sz n-1):=by
  conv=>lhs;rw [← hlen]
  rw [hlen];exact List.take_left' hlen
 rw [et,h2,fold_big hn,if_pos rfl]
theorem big_fold:∀ (R:List Nat) (low:Nat),(low+1)*2^(8*R.length)≤18446744073709551616→(∀ x∈R,x<256) →
  big (R.foldl kF low) R.length=R∧R.foldl kF low / 2^(8*R.length)=low
 | [],low,_,_=>by simp [big]
 | x::R,low,h,hR=>by
  have hx:=hR x (by simp)
  simp only [List.length_cons,p256] at h ⊢
  have hp:=Nat.two_pow_pos (8*R.length)
  have h1:(low+1)*256*2^(8*R.length)≤18446744073709551616:=by rw [Nat.mul_assoc,Nat.mul_comm 256];exact h
  have h2:(low*256+x+1)*2^(8*R.length)≤18446744073709551616:=Nat.le_trans (Nat.mul_le_mul_right _ (by omega)) h1
  have h3:(low+1)*256≤18446744073709551616:=Nat.le_trans (Nat.le_mul_of_pos_right _ hp) h1
  have es:kF low x=low*256+x:=by unfold kF;omega
  obtain ⟨i1,i2⟩:=big_fold R (low*256+x) h2 (λ y hy=>hR y (List.mem_cons_of_mem _ hy))
  simp only [List.foldl_cons,es]
  refine ⟨?_,?_⟩
  ·rw [big,i2,i1]
   congr 1
   omega
  ·rw [← Nat.div_div_eq_div_mul,i2]
   omega
theorem numV_back {r:List Nat} {v k:Nat} (hr:∀ x∈r,x<256) (h:gP r=(v,k,0)):r=encL v++r.drop k∧k=sz v∧v<18446744073709551616:=by
 cases r with
 | nil=>simp [gP] at h
 | cons f t =>
  have hf:=hr f (by simp)
  have hc:=cnt_bd (f:=f)
  obtain ⟨h1,h2⟩:=head_back ⟨f,hf⟩
  simp only at h1 h2
  simp only [gP] at h
  split at h
  ·simp at h
  ·rename_i hs
   split at h
   ·rename_i hz
    simp only [Prod.mk.injEq,and_true] at h
    obtain ⟨hv,hk⟩:=h
    have hlen:(t.take (cnt f-1)).length=cnt f-1:=by simp;omega
    have hR:∀ x∈t.take (cnt f-1),x<256:=λ x hx=>hr x (List.mem_cons_of_mem _ (List.mem_of_mem_take hx))
    have hlow:f&&&(255 / 2^cnt f)<256:=Nat.lt_of_le_of_lt Nat.and_le_left hf
    have hfit:(f&&&(255 / 2^cnt f))+1≤2^(8-cnt f):=h2
    obtain ⟨b1,b2⟩:=big_fold (t.take (cnt f-1)) (f&&&(255 / 2^cnt f)) (by
     rw [hlen]
     refine Nat.le_trans (Nat.mul_le_mul_right _ hfit) ?_
     rw [← Nat.pow_add]
     exact Nat.pow_le_pow_right (n:=2) (j:=64) (by decide) (by omega)) hR
    have hlt:=fold_lt (t.take (cnt f-1)) (f&&&(255 / 2^cnt f)) (by omega) hR
    rw [hv] at b1 b2 hz hlt
    rw [hlen] at b1 b2
    refine ⟨?_,by omega,hlt⟩
    subst hk
    have e1:encL v=f::t.take (cnt f-1):=by
     unfold encL head1
     rw [hz,b1,b2,Nat.mod_eq_of_lt hlow,h1]
    rw [e1]
    obtain ⟨m,hm⟩:∃ m,cnt f=m+1:=⟨cnt f-1,by omega⟩
    rw [hm]
    simp
   ·simp at h
end Go.Proofs.YtfpadnmdafiddaaGreatDoor
