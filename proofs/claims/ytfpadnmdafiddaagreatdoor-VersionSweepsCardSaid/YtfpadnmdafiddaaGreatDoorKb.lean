import Derived.Test.YtfpadnmdafiddaaGreatDoorKa
import Derived.LaidEql
import Derived.DeepKeys4
import Derived.Maps.Keyed
import Derived.Carry
import Derived.Laws.OwnMore
set_option linter.all false
set_option maxHeartbeats 16000000
set_option maxRecDepth 100000
namespace Go.V
open Go Go.RowKit
section
variable [Rn]
variable {P:Program} {n:Nat} {e:dN} {w:World} {Q:dO} {ops:Array Oper} {rest:List Oper} {d:Nat} {ty:TypeId} {pos:String} {aft:Array Edge}
def ptrB (P:Program) (t:TypeId):Bool:=match P.underlying t with|some (.pointer el)=>(match P.info? el with|some i=>!(Nat.beq i.size 0)|none=>false)|_=>false
class PtrTy (P:Program) (t:TypeId):Prop where
 h:ptrB P t=true
theorem PtrTy.und {t:TypeId} (h:PtrTy P t):∃ el i,P.underlying t=some (.pointer el)∧P.info? el=some i∧i.size≠0:=by
 have h:=h.h
 unfold ptrB at h
 split at h
 ·rename_i el he
  split at h
  ·rename_i i hi
   refine ⟨el,i,he,hi,?_⟩
   intro h0
   rw [h0] at h
   cases h
  ·cases h
 ·cases h
theorem run_equalIn_nil (dp:Nat) {t:TypeId} (h:PtrTy P t) (a:Addr) (w:World):(Op.equalIn (dp+1) t (.pointer (some a)) (.pointer none)).run P w=.ok false w:=by
 obtain ⟨el,i,hu,hi,hs⟩:=h.und
 simp [Op.equalIn,underlying,hu]
theorem run_equalIn_same (dp:Nat) {t:TypeId} (h:PtrTy P t) (a:Addr) (w:World):(Op.equalIn (dp+1) t (.pointer (some a)) (.pointer (some a))).run P w=.ok true w:=by
 obtain ⟨el,i,hu,hi,hs⟩:=h.und
 simp [Op.equalIn,underlying,hu,sizeOf,typeInfo,hi,hs,run_sameAddr_same]
theorem TL.neNilP {t t2:TypeId} {x y:Operand} {a:Addr} [ht:PtrTy P t] (hx:val e x=some (.pointer (some a))) (hy:val e y=some (.pointer none)) (hd:Nat.blt d n=true)
  (k:TL P n ops rest ((d,.bool true)::e) w Q):TL P n ops (⟨some d,.binOp .neq t x y t2,ty,pos,aft,none⟩::rest) e w Q :=
 TL.run (λ r hr=>by
  have hg:eqGuard .neq t x y (.pointer (some a)) (.pointer none)=Pure.pure ():=rfl
  simp only [execOp,hr.eval hx,hr.eval hy,hg]
  simp only [binOp]
  simp [Op.equal,Op.maxDepth,run_equalIn_nil 9999 ht]) hd k
theorem TL.eqSame {t t2:TypeId} {x y:Operand} {a:Addr} [ht:PtrTy P t] (hx:val e x=some (.pointer (some a))) (hy:val e y=some (.pointer (some a))) (hd:Nat.blt d n=true)
  (k:TL P n ops rest ((d,.bool true)::e) w Q):TL P n ops (⟨some d,.binOp .eql t x y t2,ty,pos,aft,none⟩::rest) e w Q :=
 TL.run (λ r hr=>by
  have hg:eqGuard .eql t x y (.pointer (some a)) (.pointer (some a))=Pure.pure ():=rfl
  simp only [execOp,hr.eval hx,hr.eval hy,hg]
  simp only [binOp]
  simp [Op.equal,Op.maxDepth,run_equalIn_same 9999 ht]) hd k
theorem TL.guard_left {j s:Nat} {want:Bool} {op:Op} (hj:(ops[j]?).bind (·.dst)=some s) (hb:find e s=some undef) (hd:Nat.blt d n=true)
  (hf:TL P n ops rest ((d,undef)::e) w Q):TL P n ops (⟨some d,op,ty,pos,aft,some (j,want)⟩::rest) e w Q:=TL.mk λ a ha=>by
 have hy:(yielded ops a.tmps j==some want)=false:=by
  have h1:=ha.get s _ hb
  simp only [yielded,hj,Option.bind_some]
  rcases Nat.lt_or_ge s a.tmps.size with h|h
  ·have h2:a.tmps[s]? = some undef:=by
    simp [h] at h1
    simp [h,h1]
   rw [h2]
   rfl
  ·rw [Array.getElem?_eq_none h]
   rfl
 have hout:=hf.out (ha.put hd undef)
 unfold wpListIn
 simp only [Region.wanted,hy,Bool.false_eq_true,if_false]
 exact ⟨λ _ _=>trivial,hout⟩
end
end Go.V
namespace Go.Proofs.YtfpadnmdafiddaaGreatDoor
open Go Go.RowKit Go.V
instance:PtrTy Tryz.prog 302:=⟨by kernel_rfl⟩
def rdr (b:Nat) (a:Option Addr) (n c at' err:Nat):List Value:=[.pointer (some ⟨b,0,none⟩),.slice a n c,.int .i64 (at':Int),.int .i64 (err:Int)]
theorem made_c (b:Nat) (a:Option Addr) (n c at' err:Nat) (w:World) (hb:Blk w b 329 (rdr b a n c at' err)) :
  Calls Tryz.prog 257 #[.pointer (some ⟨b,0,none⟩)] w (Ret λ v w'=>v=.bool true∧w=w'):=by
 unfold rdr at hb
 refine V.calls (args:=[_]) Tryz.func257 rfl Tryz.ntmps257 rfl rfl ?_
 repeat (first|(refine TL.isNeT 302 ?_;refine TL.neNilP rfl rfl rfl ?_)|(refine TL.isEqT 302 ?_;refine TL.eqSame rfl rfl rfl ?_)|refine aX rfl rfl rfl ?_|(refine aB ?_;refine TL.pure rfl rfl ?_)|(refine aD ?_;refine TL.pure rfl rfl ?_)|refine aK rfl yM rfl ?_|refine aF rfl rfl ?_|refine TL.nil ?_|refine aA ?_|refine aJ ?_|refine aC ?_|refine bL rfl rfl ?_|refine bC ?_|refine TL.pure rfl rfl ?_)
 exact cF rfl ⟨_,rfl,rfl,rfl⟩
theorem err_c (b:Nat) (a:Option Addr) (n c at' err:Nat) (w:World) (hb:Blk w b 329 (rdr b a n c at' err)) :
  Calls Tryz.prog 222 #[.pointer (some ⟨b,0,none⟩)] w (Ret λ v w'=>v=.int .i64 (err:Int)∧w=w'):=by
 refine V.calls (args:=[_]) Tryz.func222 rfl Tryz.ntmps222 rfl rfl ?_
 have hb2:=hb
 unfold rdr at hb2
 repeat (first|(refine aB ?_;refine TL.pure rfl rfl ?_)|(refine aD ?_;refine TL.pure rfl rfl ?_)|refine aK rfl yM rfl ?_|refine aF rfl rfl ?_|refine TL.nil ?_|refine aA ?_|refine aJ ?_|refine aC ?_|refine bL rfl rfl ?_|refine aE rfl ?_|refine bC ?_|refine aV ?_|refine TL.pure rfl rfl ?_|(refine aL 257 ?_;refine aI rfl (made_c b a n c at' err _ hb) rfl ?_;rintro _ _ ⟨rfl,rfl⟩))
 exact cF rfl ⟨_,rfl,rfl,rfl⟩
end Go.Proofs.YtfpadnmdafiddaaGreatDoor
namespace Go.V
open Go Go.RowKit
section
variable [Rn]
variable {P:Program} {n:Nat} {e:dN} {w:World} {Q:dO} {ops:Array Oper} {rest:List Oper} {d:Nat} {ty:TypeId} {pos:String} {aft:Array Edge}
theorem TL.convZ {z z':Int} {s t:TypeId} {x:Operand} {k1 k2 kd:IntKind} [hs:IntTy P s k1] [ht:IntTy P t k2] (hx:val e x=some (.int kd z)) (h:k2.wrap z=z') (hd:Nat.blt d n=true)
  (k:TL P n ops rest ((d,.int k2 z')::e) w Q):TL P n ops (⟨some d,.convert s t x,ty,pos,aft,none⟩::rest) e w Q :=
 TL.run (λ r hr=>by simp [execOp,hr.eval hx,jB hs ht,h]) hd k
end
end Go.V
namespace Go.Proofs.YtfpadnmdafiddaaGreatDoor
open Go Go.RowKit Go.V
abbrev Mut (b:Nat) (w w':World):Prop:=w.grownBy w' (some b)
theorem jI {b:Nat} {w w':World} (g:Grow w w'):Mut b w w':=⟨g.1.os,g.1.tape,g.1.output,g.2,λ k hk _=>g.block k hk⟩
theorem mut_upd {b:Nat} {w w':World} (u:Upd b w w'):Mut b w w':=⟨u.os,u.tape,u.output,Nat.le_of_eq u.size.symm,λ k _ hk=>u.block k (λ h=>hk (by rw [h]))⟩
theorem lH {F:Nat→Prop} {b sz n c:Nat} {a:Option Addr} {cs:List Value} {w w':World} (h:Sl F w sz a n c cs) (m:Mut b w w') (hF:¬ F b):Sl F w' sz a n c cs :=
 h.keep (λ k hk hk2=>m.block k hk2 (λ h=>hF (by cases h;exact hk))) m.size
theorem left_c (b:Nat) (a:Option Addr) (n c at' err:Nat) (w:World) (hb:Blk w b 329 (rdr b a n c at' err)) (hn:n≤9223372036854775807) (ha:at'≤n) :
  Calls Tryz.prog 225 #[.pointer (some ⟨b,0,none⟩)] w (Ret λ v w'=>v=.int .i64 ((n-at':Nat):Int)∧Grow w w'):=by
 refine V.calls (args:=[_]) Tryz.func225 rfl Tryz.ntmps225 rfl rfl ?_
 have hb2:=hb
 unfold rdr at hb2
 repeat (first|(refine aB ?_;refine TL.pure rfl rfl ?_)|(refine aD ?_;refine TL.pure rfl rfl ?_)|refine TL.nil ?_|refine aA ?_|refine aJ ?_|refine aC ?_|refine aE rfl ?_|refine aV ?_|refine TL.pure rfl rfl ?_|(refine aL 257 ?_;refine aI rfl (made_c b a n c at' err _ hb) rfl ?_;rintro _ _ ⟨rfl,rfl⟩))
 apply T.any 10 [is _,is _,is _,is _,is _,is _,is _,is _,is _,is _];(· kernel_rfl);(· ((repeat' (first|exact bX|refine bU ?_ ?_));(iterate 10 (· ((refine aQ rfl rfl rfl ?_);( intro wq _ _ hgq;(repeat (refine aG rfl rfl ?_;intro vq hvq;try (obtain rfl:=hvq)));(refine aM ?_));(repeat (first|(refine aB ?_;refine TL.pure rfl rfl ?_)|refine aK rfl yM rfl ?_|refine aF rfl rfl ?_|(refine cJ ?_;refine iT rfl rfl (by omega) (by omega) rfl ?_)|refine TL.nil ?_|refine bL rfl rfl ?_|refine aO rfl rfl ?_));exact aS rfl yG rfl)))));(rintro _ _ _ hgr _ _;(repeat (refine aG rfl rfl ?_;intro vq hvq;try (obtain rfl:=hvq)));(refine aM ?_))
 repeat (first|(refine aD ?_;refine TL.pure rfl rfl ?_)|refine TL.nil ?_|refine aA ?_|refine bC ?_)
 exact cF rfl ⟨_,rfl,congrArg (Value.int .i64) (by omega),yG⟩
theorem fail_c (b:Nat) (a:Option Addr) (n c at' err:Nat) (x y:Nat) (w:World) (hb:Blk w b 329 (rdr b a n c at' err)) :
  Calls Tryz.prog 259 #[.pointer (some ⟨b,0,none⟩),.int .i64 (x:Int),.int .i64 (y:Int)] w (Ret λ v w'=>Blk w' b 329 (rdr b a n c x y)∧Mut b w w'):=by
 refine V.calls (args:=[_,_,_]) Tryz.func259 rfl Tryz.ntmps259 rfl rfl ?_
 have hb2:=hb
 unfold rdr at hb2
 repeat (first|(refine aB ?_;refine TL.pure rfl rfl ?_)|refine aF rfl rfl ?_|refine TL.nil ?_|refine aA ?_|refine aJ ?_|refine aC ?_|(refine aP ?_;(refine bP rfl rfl yB (by exact rfl) (by exact rfl) (by exact rfl) ?_;intro w' hu hbk hsz))|refine bL rfl rfl ?_)
 exact kB (vs:=[]) (by trivial) rfl ⟨_,rfl,hbk,mut_upd (by exact Upd.trans (by assumption) hu)⟩
theorem take_err (b:Nat) (a:Option Addr) (n c at' err m:Nat) (w:World) (hb:Blk w b 329 (rdr b a n c at' err)) (he:err≠0) :
  Calls Tryz.prog 256 #[.pointer (some ⟨b,0,none⟩),.int .u64 (m:Int)] w (Ret λ v w'=>v=.tuple #[.slice none 0 0,.bool false]∧w=w'):=by
 refine V.calls (args:=[_,_]) Tryz.func256 rfl Tryz.ntmps256 rfl rfl ?_
 have hb2:=hb
 unfold rdr at hb2
 repeat (first|refine aX rfl rfl rfl ?_|(refine aB ?_;refine TL.pure rfl rfl ?_)|(refine aD ?_;refine TL.pure rfl rfl ?_)|refine aK rfl yM rfl ?_|refine aF rfl rfl ?_|refine TL.nil ?_|refine aA ?_|refine aJ ?_|refine aC ?_|(refine aH ?_;refine TL.pure rfl rfl ?_)|refine bL rfl rfl ?_|refine eT rfl yD ?_|refine bC ?_|refine bI ?_|refine TL.pure rfl rfl ?_|(refine aL 257 ?_;refine aI rfl (made_c b a n c at' err _ hb) rfl ?_;rintro _ _ ⟨rfl,rfl⟩))
 exact jS rfl rfl ⟨_,rfl,rfl,rfl⟩
theorem take_no (b:Nat) (a:Option Addr) (n c at' m:Nat) (w:World) (hb:Blk w b 329 (rdr b a n c at' 0)) (hn:n≤9223372036854775807) (ha:at'≤n) (hm:n-at'<m) (hm2:m<18446744073709551616) :
  Calls Tryz.prog 256 #[.pointer (some ⟨b,0,none⟩),.int .u64 (m:Int)] w (Ret λ v w'=>v=.tuple #[.slice none 0 0,.bool false]∧Blk w' b 329 (rdr b a n c at' 5)∧Mut b w w'):=by
 refine V.calls (args:=[_,_]) Tryz.func256 rfl Tryz.ntmps256 rfl rfl ?_
 have hb2:=hb
 unfold rdr at hb2
 repeat (first|refine aX rfl rfl rfl ?_|(refine aB ?_;refine TL.pure rfl rfl ?_)|(refine aD ?_;refine TL.pure rfl rfl ?_)|refine aK rfl yM rfl ?_|refine aF rfl rfl ?_|refine TL.nil ?_|refine aA ?_|refine aJ ?_|refine aC ?_|(refine aH ?_;refine TL.pure rfl rfl ?_)|refine bL rfl rfl ?_|refine aE rfl ?_|refine aV ?_|refine TL.pure rfl rfl ?_|(refine aL 257 ?_;refine aI rfl (made_c b a n c at' 0 _ hb) rfl ?_;rintro _ _ ⟨rfl,rfl⟩))
 have hcv:IntKind.u64.wrap ((n:Int)-(at':Int))=((n-at':Nat):Int):=by
  rw [show (n:Int)-(at':Int)=((n-at':Nat):Int) by omega]
  exact eW (M:=18446744073709551616) rfl (by omega)
 apply T.any 13 [is _,is _,is _,is _,is _,is _,is _,is _,is _,is _,is _,is _,is _];(· kernel_rfl);(· ((repeat' (first|exact bX|refine bU ?_ ?_));(iterate 13 (· ((refine aQ rfl rfl rfl ?_);( intro wq _ _ hgq;(repeat (refine aG rfl rfl ?_;intro vq hvq;try (obtain rfl:=hvq)));(refine aM ?_));(repeat (first|(refine aB ?_;refine TL.pure rfl rfl ?_)|refine aK rfl yM rfl ?_|refine aF rfl rfl ?_|(refine cJ ?_;refine iT rfl rfl (by omega) (by omega) rfl ?_)|refine TL.nil ?_|(refine aH ?_;refine TL.pure rfl rfl ?_)|refine bL rfl rfl ?_|refine aO rfl rfl ?_|refine TL.convZ rfl hcv rfl ?_));exact aS rfl yG rfl)))));(rintro _ _ _ hgr _ _;(repeat (refine aG rfl rfl ?_;intro vq hvq;try (obtain rfl:=hvq)));(refine aM ?_))
 repeat (first|(refine aB ?_;refine TL.pure rfl rfl ?_)|(refine aD ?_;refine TL.pure rfl rfl ?_)|refine aF rfl rfl ?_|refine TL.nil ?_|refine aA ?_|refine aJ ?_|refine aC ?_|(refine aP ?_;(refine bP rfl rfl yB (by exact rfl) (by exact rfl) (by exact rfl) ?_;intro w' hu hbk hsz))|refine bL rfl rfl ?_|refine eT rfl yD ?_|refine bC ?_|refine bI ?_)
 exact jS rfl rfl ⟨_,rfl,rfl,hbk,(jI hgr).trans (mut_upd hu)⟩
theorem take_yes (F:Nat→Prop) (b:Nat) (a:Option Addr) (n c at' m:Nat) (l:List Nat) (w:World) (hb:Blk w b 329 (rdr b a n c at' 0)) (hs:Sl F w 1 a n c (cX l)) (hF:¬ F b) (hn:n≤9223372036854775807) (ha:at'≤n) (hm:m≤n-at') :
  Calls Tryz.prog 256 #[.pointer (some ⟨b,0,none⟩),.int .u64 (m:Int)] w (Ret λ v w'=>∃ a' c',v=.tuple #[.slice a' m c',.bool true]∧Sl F w' 1 a' m c' (cX ((l.drop at').take m))∧Blk w' b 329 (rdr b a n c (at'+m) 0)∧Mut b w w'):=by
 refine V.calls (args:=[_,_]) Tryz.func256 rfl Tryz.ntmps256 rfl rfl ?_
 have hb2:=hb
 unfold rdr at hb2
 have hcv:IntKind.u64.wrap ((n:Int)-(at':Int))=((n-at':Nat):Int):=by
  rw [show (n:Int)-(at':Int)=((n-at':Nat):Int) by omega]
  exact eW (M:=18446744073709551616) rfl (by omega)
 repeat (first|refine aX rfl rfl rfl ?_|(refine aB ?_;refine TL.pure rfl rfl ?_)|(refine aD ?_;refine TL.pure rfl rfl ?_)|refine aK rfl yM rfl ?_|refine aF rfl rfl ?_|refine TL.nil ?_|refine aA ?_|refine aJ ?_|refine aC ?_|(refine aH ?_;refine TL.pure rfl rfl ?_)|refine bL rfl rfl ?_|refine aE rfl ?_|refine aV ?_|refine TL.pure rfl rfl ?_|(refine aL 257 ?_;refine aI rfl (made_c b a n c at' 0 _ hb) rfl ?_;rintro _ _ ⟨rfl,rfl⟩))
 apply T.any 13 [is _,is _,is _,is _,is _,is _,is _,is _,is _,is _,is _,is _,is _];(· kernel_rfl);(· ((repeat' (first|exact bX|refine bU ?_ ?_));(iterate 13 (· ((refine aQ rfl rfl rfl ?_);( intro wq _ _ hgq;(repeat (refine aG rfl rfl ?_;intro vq hvq;try (obtain rfl:=hvq)));(refine aM ?_));(repeat (first|(refine aB ?_;refine TL.pure rfl rfl ?_)|refine aK rfl yM rfl ?_|refine aF rfl rfl ?_|(refine cJ ?_;refine iT rfl rfl (by omega) (by omega) rfl ?_)|refine TL.nil ?_|(refine aH ?_;refine TL.pure rfl rfl ?_)|refine bL rfl rfl ?_|refine aO rfl rfl ?_|refine TL.convZ rfl hcv rfl ?_));exact aS rfl yG rfl)))));(rintro _ _ _ hgr _ _;(repeat (refine aG rfl rfl ?_;intro vq hvq;try (obtain rfl:=hvq)));(refine aM ?_))
 repeat (first|(refine cZ ?_;refine lZ rfl (by omega) rfl ?_)|(refine bJ ?_;refine bT rfl rfl (by omega) rfl ?_)|(refine aB ?_;refine TL.pure rfl rfl ?_)|(refine aD ?_;refine TL.pure rfl rfl ?_)|refine aK rfl yM rfl ?_|refine aF rfl rfl ?_|refine TL.nil ?_|refine aA ?_|refine aJ ?_|refine aC ?_|(refine aP ?_;(refine bP rfl rfl yB (by exact rfl) (by exact rfl) (by exact rfl) ?_;intro w' hu hbk hsz))|refine bL rfl rfl ?_|refine eG rfl yD ?_|refine aV ?_)
 have hs8:=(hs.grow hgr).upd hu (λ k hk h=>hF (h▸hk))
 have hbk8:Blk w' b 329 [.pointer (some ⟨b,0,none⟩),.slice a n c,.int .i64 ((at'+m:Nat):Int),.int .i64 0]:=hbk
 apply T.any 10 [is _,is _,is _,is _,is _,is _,is _,is _,is _,slF F 1 m (c-at') (cX ((l.drop at').take m))]
 ·rfl
 ·repeat' (first|exact bX|refine bU ?_ ?_)
  iterate 9
   ·(refine aQ rfl rfl rfl ?_);( intro wq _ _ hgq;(repeat (refine aG rfl rfl ?_;intro vq hvq;try (obtain rfl:=hvq)));(refine aM ?_))
    repeat (first|(refine aB ?_;refine TL.pure rfl rfl ?_)|refine aK rfl yM rfl ?_|refine aF rfl rfl ?_|refine TL.nil ?_|refine bL rfl rfl ?_)
    exact aS rfl yG rfl
  ·(refine aQ rfl rfl rfl ?_);( intro wq _ _ hgq;(repeat (refine aG rfl rfl ?_;intro vq hvq;try (obtain rfl:=hvq)));(refine aM ?_))
   refine TL.slice (l:=at') (h:=at'+m) (mm:=c) rfl (hs8.grow hgq) (dG rfl rfl) (dG rfl rfl) (bZ c) (by intro h;cases h) (by omega) (by omega) (by have:=hs.cap;omega) (Nat.le_refl _) rfl ?_
   intro a' hsl _
   repeat (refine TL.nil ?_)
   rw [show at'+m-at'=m by omega] at hsl ⊢
   exact aS rfl yG ⟨a',rfl,by simpa [cX,List.map_take,List.map_drop] using hsl⟩
 ·intro w6 lo6 hi6 hg6 hspan6 hapart6
  ((repeat (refine aG rfl rfl ?_;intro vq hvq;try (obtain rfl:=hvq)));(refine aM ?_))
  obtain ⟨a',rfl,hsl⟩:=hvq
  repeat (first|(refine aD ?_;refine TL.pure rfl rfl ?_)|refine TL.nil ?_|refine aA ?_|refine bC ?_)
  exact jS rfl rfl ⟨_,rfl,a',_,rfl,hsl,hbk8.grow hg6,((jI hgr).trans (mut_upd hu)).trans (jI hg6)⟩
end Go.Proofs.YtfpadnmdafiddaaGreatDoor
namespace Go.V
open Go Go.RowKit
section
variable [Rn]
variable {P:Program} {n:Nat} {e:dN} {w:World} {Q:dO} {ops:Array Oper} {rest:List Oper} {d:Nat} {ty:TypeId} {pos:String} {aft:Array Edge}
theorem notB:∀ a:Fin 256,Op.intBits .xor .u8 255 (a.1:Int)=(Pure.pure (.int .u8 ((255-a.1:Nat):Int)):Sem Value):=by
 have h:∀ a:Fin 256,(BitVec.ofInt 8 255 ^^^ BitVec.ofInt 8 (a.1:Int)).toNat=255-a.1:=by decide +kernel
 intro a
 have ha:=a.2
 have h2:=h a
 have e2:=eW (kd:=.u8) (M:=256) rfl (show 255-a.1<256 by omega)
 rw [← h2] at e2 ⊢
 simp only [Op.intBits]
 show Pure.pure (Value.int .u8 (IntKind.u8.wrap ((BitVec.ofInt 8 255 ^^^ BitVec.ofInt 8 (a.1:Int)).toNat:Int)))=_
 rw [e2]
theorem TL.notB {x:Operand} {a:Nat} {t1:TypeId} (hx:val e x=some (.int .u8 (a:Int))) (ha:a<256) (hd:Nat.blt d n=true)
  (k:TL P n ops rest ((d,.int .u8 ((255-a:Nat):Int))::e) w Q):TL P n ops (⟨some d,.unOp .xor t1 x,ty,pos,aft,none⟩::rest) e w Q :=
 TL.run (λ r hr=>by
  have h:Op.unary .xor (.int .u8 (a:Int))=(Pure.pure (.int .u8 ((255-a:Nat):Int)):Sem Value):=V.notB ⟨a,ha⟩
  simp only [execOp,hr.eval hx,h]
  rfl) hd k
theorem TL.isUn {u:UnOp} {x:Operand} {t1:TypeId} {d:Option Nat} (h:TL P n ops (⟨d,.unOp u t1 x,ty,pos,aft,none⟩::rest) e w Q):TL P n ops (⟨d,.unOp u t1 x,ty,pos,aft,none⟩::rest) e w Q:=h
theorem TL.shrB {x y:Operand} {a s:Nat} {ky:IntKind} {t1 t2:TypeId} {zx zy:Int} (hx:val e x=some (.int .u8 zx)) [ix:Lit zx a] (hy:val e y=some (.int ky zy)) [iy:Lit zy s] (ha:a<256) (hd:Nat.blt d n=true)
  (k:TL P n ops rest ((d,.int .u8 ((a / 2^s:Nat):Int))::e) w Q):TL P n ops (⟨some d,.binOp .shr t1 x y t2,ty,pos,aft,none⟩::rest) e w Q :=
 TL.run (λ r hr=>by
  rw [ix.h] at hx;rw [iy.h] at hy
  have h4:¬ ((s:Int)<0):=by omega
  have e1:(a:Int).fdiv (2^(min s 8))=((a / 2^s:Nat):Int):=by
   rw [Int.fdiv_eq_ediv_of_nonneg _ (by exact_mod_cast Nat.zero_le (2^(min s 8)))]
   have:a / 2^(min s 8)=a / 2^s:=by
    rcases Nat.lt_or_ge s 8 with h|h
    ·rw [Nat.min_eq_left (by omega)]
    ·rw [Nat.min_eq_right h,Nat.div_eq_of_lt ha,Nat.div_eq_of_lt (Nat.lt_of_lt_of_le ha (Nat.pow_le_pow_right (n:=2) (by decide) h))]
   rw [← this]
   simp
  have h3:IntKind.u8.bits=8:=rfl
  simp only [execOp,binOp,cC,Op.shift,hr.eval hx,hr.eval hy]
  simp [h3,h4,e1]) hd k
end
end Go.V
namespace Go.Proofs.YtfpadnmdafiddaaGreatDoor
open Go Go.RowKit Go.V
def cnt (f:Nat):Nat:=8-bl (255-f)+1
def kJ (v c:Nat):Nat:=v*256%18446744073709551616+c
def gG:List Nat→Nat×Nat×Nat
 | []=>(0,0,5)
 | f::t=>if t.length<cnt f-1 then (0,0,5) else
  if sz ((t.take (cnt f-1)).foldl kJ (f&&&(255 / 2^cnt f)))=cnt f then ((t.take (cnt f-1)).foldl kJ (f&&&(255 / 2^cnt f)),cnt f,0) else (0,0,4)
theorem rnum_err (b:Nat) (a:Option Addr) (n c at' err:Nat) (w:World) (hb:Blk w b 329 (rdr b a n c at' err)) (he:err≠0) :
  Calls Tryz.prog 258 #[.pointer (some ⟨b,0,none⟩)] w (Ret λ v w'=>v=.int .u64 0∧w=w'):=by
 refine V.calls (args:=[_]) Tryz.func258 rfl Tryz.ntmps258 rfl rfl ?_
 repeat (first|(refine aB ?_;refine TL.pure rfl rfl ?_)|(refine aD ?_;refine TL.pure rfl rfl ?_)|refine TL.nil ?_|refine aA ?_|refine aJ ?_|refine aC ?_|refine aN rfl ?_|refine bC ?_|refine bI ?_|refine TL.pure rfl rfl ?_|(refine aL 256 ?_;refine aI rfl (take_err b a n c at' err 1 _ hb he) rfl ?_;rintro _ _ ⟨rfl,rfl⟩))
 exact cF rfl ⟨_,rfl,rfl,rfl⟩
theorem rnum_none (b:Nat) (a:Option Addr) (n c:Nat) (w:World) (hb:Blk w b 329 (rdr b a n c n 0)) (hn:n≤9223372036854775807) :
  Calls Tryz.prog 258 #[.pointer (some ⟨b,0,none⟩)] w (Ret λ v w'=>v=.int .u64 0∧Blk w' b 329 (rdr b a n c n 5)∧Mut b w w'):=by
 refine V.calls (args:=[_]) Tryz.func258 rfl Tryz.ntmps258 rfl rfl ?_
 repeat (first|(refine aB ?_;refine TL.pure rfl rfl ?_)|(refine aD ?_;refine TL.pure rfl rfl ?_)|refine TL.nil ?_|refine aA ?_|refine aJ ?_|refine aC ?_)
 refine aI rfl (take_no b a n c n 1 _ hb hn (Nat.le_refl _) (by omega) (by omega)) rfl ?_
 rintro _ w2 ⟨rfl,hb2,hm2⟩
 repeat (first|(refine aB ?_;refine TL.pure rfl rfl ?_)|(refine aD ?_;refine TL.pure rfl rfl ?_)|refine TL.nil ?_|refine aA ?_|refine aJ ?_|refine aC ?_|refine aN rfl ?_|refine bC ?_|refine bI ?_|refine TL.pure rfl rfl ?_)
 exact cF rfl ⟨_,rfl,rfl,hb2,hm2⟩
theorem fold_lt:∀ (R:List Nat) (v:Nat),v<18446744073709551616→(∀ x∈R,x<256)→R.foldl kJ v<18446744073709551616
 | [],v,hv,_=>hv
 | x::R,v,hv,h=>fold_lt R (kJ v x) (by have:=h x (by simp);unfold kJ;omega) (λ y hy=>h y (List.mem_cons_of_mem _ hy))
theorem cnt_bd {f:Nat}:1≤cnt f∧cnt f≤9:=by unfold cnt;omega
theorem rnum_some (F:Nat→Prop) (b:Nat) (a:Option Addr) (n c at':Nat) (l:List Nat) (f:Nat) (t:List Nat) (w:World) (hb:Blk w b 329 (rdr b a n c at' 0)) (hs:Sl F w 1 a n c (cX l)) (hF:¬ F b) (hn:n≤4611686018427387904)
  (ha:at'≤n) (hl:∀ x∈l,x<256) (hd:l.drop at'=f::t) :
  Calls Tryz.prog 258 #[.pointer (some ⟨b,0,none⟩)] w (Ret λ v w'=>v=.int .u64 ((gG (f::t)).1:Int)∧Blk w' b 329 (rdr b a n c (at'+(gG (f::t)).2.1) (gG (f::t)).2.2)∧Mut b w w'):=by
 have hlen:l.length=n:=by have:=hs.len;simpa [cX] using this
 have hdl:t.length+1=n-at':=by have:=congrArg List.length hd;simp at this;omega
 have hf:f<256:=hl f (List.mem_of_mem_drop (i:=at') (by rw [hd];simp))
 have hcb:=cnt_bd (f:=f)
 refine V.calls (args:=[_]) Tryz.func258 rfl Tryz.ntmps258 rfl rfl ?_
 repeat (first|(refine aB ?_;refine TL.pure rfl rfl ?_)|(refine aD ?_;refine TL.pure rfl rfl ?_)|refine TL.nil ?_|refine aA ?_|refine aJ ?_|refine aC ?_)
 refine aI rfl (take_yes F b a n c at' 1 l _ hb hs hF (by omega) ha (by omega)) rfl ?_
 rintro _ w2 ⟨a2,c2,rfl,hsl2,hb2,hm2⟩
 have e2:(l.drop at').take 1=[f]:=by rw [hd];rfl
 rw [e2] at hsl2
 have hcell:=hsl2.row.cell (j:=0) (v:=.int .u8 (f:Int)) rfl
 have hb2':=hb2
 unfold rdr at hb2'
 repeat (first|(refine TL.isUn ?_;refine TL.notB rfl hf rfl ?_)|(refine cJ ?_;refine dI rfl rfl (by omega) (by omega) rfl ?_)|(refine bJ ?_;refine bT rfl rfl (by omega) rfl ?_)|(refine aB ?_;refine TL.pure rfl rfl ?_)|(refine aD ?_;refine TL.pure rfl rfl ?_)|refine aK rfl yM rfl ?_|refine aF rfl rfl ?_|refine TL.nil ?_|refine aA ?_|refine aJ ?_|refine aC ?_|(refine cZ ?_;refine eV rfl rfl (by omega) rfl ?_)|refine bL rfl rfl ?_|refine aE rfl ?_|refine aV ?_|refine TL.pure rfl rfl ?_|(refine aW (j:=0) rfl rfl rfl (by omega) (Nat.mul_one _) ⟨_,_,hsl2⟩ rfl ?_)|(refine aL 273 ?_;refine aI rfl (lz8_c (255-f) (by omega) _) rfl ?_;rintro _ _ ⟨rfl,rfl⟩))
 rw [show 8-bl (255-f)+1=cnt f from rfl]
 by_cases hshort:t.length<cnt f-1
 ·have en:gG (f::t)=(0,0,5):=by simp only [gG,if_pos hshort]
  rw [en]
  refine aI rfl (take_no b a n c (at'+1) (cnt f-1) _ hb2 (by omega) (by omega) (by omega) (by omega)) rfl ?_
  rintro _ w3 ⟨rfl,hb3,hm3⟩
  have hb3':=hb3
  unfold rdr at hb3'
  rw [show at'+1-1=at' by omega]
  repeat (first|(refine aB ?_;refine TL.pure rfl rfl ?_)|(refine aD ?_;refine TL.pure rfl rfl ?_)|refine aK rfl yM rfl ?_|refine aF rfl rfl ?_|refine TL.nil ?_|refine aA ?_|refine aJ ?_|refine aC ?_|refine bL rfl rfl ?_|refine aN rfl ?_|refine TL.pure rfl rfl ?_)
  refine aI rfl (fail_c b a n c (at'+1) 5 at' 5 _ hb3) rfl ?_
  rintro _ w4 ⟨hb4,hm4⟩
  repeat (first|(refine aD ?_;refine TL.pure rfl rfl ?_)|refine TL.nil ?_|refine aA ?_|refine aJ ?_|refine aC ?_|refine bC ?_|refine bI ?_)
  exact cF rfl ⟨_,rfl,rfl,hb4,(hm2.trans hm3).trans hm4⟩
 have en:gG (f::t)=if sz ((t.take (cnt f-1)).foldl kJ (f&&&(255 / 2^cnt f)))=cnt f then ((t.take (cnt f-1)).foldl kJ (f&&&(255 / 2^cnt f)),cnt f,0) else (0,0,4):=by simp only [gG,if_neg hshort]
 rw [en]
 clear en
 refine aI rfl (take_yes F b a n c (at'+1) (cnt f-1) l _ hb2 (lH hs hm2 hF) hF (by omega) (by omega) (by omega)) rfl ?_
 rintro _ w3 ⟨a3,c3,rfl,hsl3,hb3,hm3⟩
 have e3:l.drop (at'+1)=t:=by rw [← List.drop_drop,hd];rfl
 rw [e3] at hsl3
 have hlt:∀ x∈t,x<256:=λ x hx=>hl x (List.mem_of_mem_drop (i:=at') (by rw [hd];exact List.mem_cons_of_mem _ hx))
 have hcell3:w3.cell? (V.at' a2 0)=some (.int .u8 (f:Int)):=(lH hsl2 hm3 hF).row.cell (j:=0) (v:=.int .u8 (f:Int)) rfl
 have hsl23:=lH hsl2 hm3 hF
 generalize hT:t.take (cnt f-1)=R at hsl3 ⊢
 have hTl:R.length=cnt f-1:=by rw [← hT];simp;omega
 have hT2:∀ x∈R,x<256:=λ x hx=>hlt x (List.mem_of_mem_take (by rw [hT];exact hx))
 generalize hk:cnt f=k at *
 clear hd hT hlt
 rw [show at'+1-1=at' by omega]
 repeat (first|(refine aB ?_;refine TL.pure rfl rfl ?_)|(refine aD ?_;refine TL.pure rfl rfl ?_)|refine TL.nil ?_|refine aA ?_|refine aJ ?_|refine aC ?_|refine aE rfl ?_|refine aV ?_|refine TL.pure rfl rfl ?_)
 apply T.any 7 [is _,is _,is _,is _,is _,is _,is _]
 ·rfl
 ·repeat' (first|exact bX|refine bU ?_ ?_)
  ·(refine aQ rfl rfl rfl ?_);( intro wq _ _ hgq;(repeat (refine aG rfl rfl ?_;intro vq hvq;try (obtain rfl:=hvq)));(refine aM ?_))
   repeat (first|(refine aB ?_;refine TL.pure rfl rfl ?_)|refine TL.nil ?_)
   exact aS rfl yG rfl
  ·(refine aQ rfl rfl rfl ?_);( intro wq _ _ hgq;(repeat (refine aG rfl rfl ?_;intro vq hvq;try (obtain rfl:=hvq)));(refine aM ?_))
   repeat (first|refine TL.nil ?_|(refine aW (j:=0) rfl rfl rfl (by omega) (Nat.mul_one _) ⟨_,_,hsl23.grow (by assumption)⟩ rfl ?_))
   exact aS rfl yG rfl
  ·(refine aQ rfl rfl rfl ?_);( intro wq _ _ hgq;(repeat (refine aG rfl rfl ?_;intro vq hvq;try (obtain rfl:=hvq)));(refine aM ?_))
   have hc4:=cell_grow hgq hcell3
   repeat (first|refine aK rfl yM rfl ?_|refine TL.nil ?_)
   exact aS rfl yG rfl
  ·(refine aQ rfl rfl rfl ?_);( intro wq _ _ hgq;(repeat (refine aG rfl rfl ?_;intro vq hvq;try (obtain rfl:=hvq)));(refine aM ?_))
   repeat (first|(refine aB ?_;refine TL.pure rfl rfl ?_)|refine TL.nil ?_)
   exact aS rfl yG rfl
  ·(refine aQ rfl rfl rfl ?_);( intro wq _ _ hgq;(repeat (refine aG rfl rfl ?_;intro vq hvq;try (obtain rfl:=hvq)));(refine aM ?_))
   repeat (first|(refine fT ?_;refine TL.shrB (a:=255) rfl rfl (by omega) rfl ?_)|refine TL.nil ?_)
   exact aS rfl yG rfl
  ·(refine aQ rfl rfl rfl ?_);( intro wq _ _ hgq;(repeat (refine aG rfl rfl ?_;intro vq hvq;try (obtain rfl:=hvq)));(refine aM ?_))
   repeat (first|(refine TL.isAnd ?_;refine TL.andB rfl rfl hf (Nat.lt_of_le_of_lt (Nat.div_le_self _ _) (by decide)) rfl ?_)|refine TL.nil ?_)
   exact aS rfl yG rfl
  ·(refine aQ rfl rfl rfl ?_);( intro wq _ _ hgq;(repeat (refine aG rfl rfl ?_;intro vq hvq;try (obtain rfl:=hvq)));(refine aM ?_))
   repeat (first|(refine cZ ?_;refine eV rfl (M:=18446744073709551616) rfl (Nat.lt_of_le_of_lt Nat.and_le_left (by omega)) rfl ?_)|refine TL.nil ?_)
   exact aS rfl yG rfl
 intro w4 lo4 hi4 hg4 hspan4 hapart4
 ((repeat (refine aG rfl rfl ?_;intro vq hvq;try (obtain rfl:=hvq)));(refine aM ?_))
 repeat (first|(refine aB ?_;refine TL.pure rfl rfl ?_)|(refine aD ?_;refine TL.pure rfl rfl ?_)|refine TL.nil ?_|refine aA ?_|refine aJ ?_|refine aC ?_|refine T.block ?_|refine aO rfl rfl ?_)
 refine cM (S:=Nat) (λ q=>[(55,.int .i64 (q:Int)),(54,.int .i64 ((k-1:Nat):Int)),(53,.slice a3 (k-1) c3),(8,.int .u64 (((R.take q).foldl kJ (f&&&255 / 2^k):Nat):Int)),(6,.int .i64 (k:Int)),(5,.int .i64 (at':Int)),(0,.pointer (some ⟨b,0,none⟩))])
  (λ q v=>q≤k-1∧Grow w3 v) (λ q=>k-1-q) 0 ⟨rfl,rfl,rfl,rfl,rfl,rfl,rfl,trivial⟩ ⟨Nat.zero_le _,hg4⟩ ?_
 rintro q w5 ⟨hq,hg5⟩
 have hb5:=hb3.grow hg5
 by_cases hqk:q<k-1
 ·have hR:R[q]? = some (R.getD q 0):=by rw [List.getD_eq_getElem?_getD,List.getElem?_eq_getElem (by omega)];rfl
  have hx:R.getD q 0<256:=hT2 _ (List.mem_of_getElem? hR)
  have htk:R.take (q+1)=R.take q++[R.getD q 0]:=by rw [List.take_add_one,hR];rfl
  generalize R.getD q 0=x at *
  have hsl5:=hsl3.grow hg5
  have hcell5:=hsl5.row.cell (j:=q) (v:=.int .u8 (x:Int)) (by simp [cX,hR])
  repeat (first|(refine TL.isShl ?_;refine TL.shlW rfl rfl (M:=18446744073709551616) (p:=256) rfl rfl rfl rfl ?_)|(refine cZ ?_;refine eV rfl (M:=18446744073709551616) rfl (by omega) rfl ?_)|(refine TL.isOr ?_;refine TL.orL (m:=256) rfl rfl (M:=18446744073709551616) rfl rfl rfl hx rfl rfl ?_)|(refine aB ?_;refine TL.pure rfl rfl ?_)|(refine aD ?_;refine TL.pure rfl rfl ?_)|refine aK rfl yM rfl ?_|(refine bJ ?_;refine TL.addI rfl rfl (by omega) (by omega) rfl ?_)|refine TL.nil ?_|refine aA ?_|refine aJ ?_|refine aC ?_|refine T.block ?_|refine aT ?_|(refine aH ?_;refine TL.pure rfl rfl ?_)|refine eT rfl yD ?_|refine aV ?_|(refine aW (j:=q) rfl rfl rfl (by omega) (Nat.mul_one _) ⟨_,_,hsl5⟩ rfl ?_))
  exact bG (q+1) ⟨rfl,rfl,rfl,by rw [htk,List.foldl_append];rfl,rfl,rfl,rfl,trivial⟩ ⟨by omega,hg5⟩ (by omega)
 ·obtain rfl:q=k-1:=by omega
  rw [List.take_of_length_le (by omega)]
  have hV:=fold_lt R (f&&&255 / 2^k) (Nat.lt_of_le_of_lt Nat.and_le_left (by omega)) hT2
  generalize R.foldl kJ (f&&&255 / 2^k)=V at hV ⊢
  have hsv:=sz_le V
  have hmm:Mut b w w5:=(hm2.trans hm3).trans (jI hg5)
  by_cases hz:sz V=k
  ·rw [if_pos hz]
   repeat (first|(refine aB ?_;refine TL.pure rfl rfl ?_)|(refine aD ?_;refine TL.pure rfl rfl ?_)|refine TL.nil ?_|refine aA ?_|refine aJ ?_|refine aC ?_|(refine aH ?_;refine TL.pure rfl rfl ?_)|refine eG rfl yD ?_|refine bC ?_|refine aV ?_|refine cN ?_|refine bM ?_|refine bO ?_|refine bN ?_|(refine aL 233 ?_;refine aI rfl (size_c V hV _) rfl ?_;rintro _ _ ⟨rfl,rfl⟩))
   refine cF rfl ⟨_,rfl,rfl,?_,hmm⟩
   rw [show at'+1+(k-1)=at'+k by omega] at hb5
   exact hb5
  ·rw [if_neg hz]
   repeat (first|(refine aB ?_;refine TL.pure rfl rfl ?_)|refine TL.nil ?_|refine aA ?_|refine aJ ?_|refine aC ?_|(refine aH ?_;refine TL.pure rfl rfl ?_)|refine eT rfl yD ?_|refine eG rfl yD ?_|refine cN ?_|refine bM ?_|refine bO ?_|refine bN ?_|(refine aL 233 ?_;refine aI rfl (size_c V hV _) rfl ?_;rintro _ _ ⟨rfl,rfl⟩))
   refine aI rfl (fail_c b a n c (at'+1+(k-1)) 0 at' 4 _ hb5) rfl ?_
   rintro _ w6 ⟨hb6,hm6⟩
   repeat (first|(refine aD ?_;refine TL.pure rfl rfl ?_)|refine TL.nil ?_|refine aA ?_|refine aJ ?_|refine aC ?_|refine bC ?_|refine bI ?_)
   exact cF rfl ⟨_,rfl,rfl,hb6,hmm.trans hm6⟩
end Go.Proofs.YtfpadnmdafiddaaGreatDoor
namespace Go.Proofs.YtfpadnmdafiddaaGreatDoor
theorem head_fact:∀ (s:Fin 10) (low:Fin 256),1≤s.1→low.1<2^(8-s.1) →
  cnt ((255*2^(9-s.1)%256)|||low.1)=s.1∧((255*2^(9-s.1)%256)|||low.1)&&&(255 / 2^s.1)=low.1:=by decide +kernel
theorem head_back:∀ f:Fin 256,(255*2^(9-cnt f.1)%256)|||(f.1&&&(255 / 2^cnt f.1))=f.1∧f.1&&&(255 / 2^cnt f.1)<2^(8-cnt f.1):=by decide +kernel
theorem p256 (j:Nat):2^(8*(j+1))=2^(8*j)*256:=by rw [show 8*(j+1)=8*j+8 by omega,Nat.pow_add]
theorem fold_big {n:Nat} (hn:n<18446744073709551616):∀ j,(big n j).foldl kJ (n / 2^(8*j))=n
 | 0=>by simp [big]
 | j+1=>by
  have h:=fold_big hn j
  simp only [big,List.foldl_cons]
  have hx:n / 2^(8*j)≤n:=Nat.div_le_self _ _
  have e:kJ (n / 2^(8*(j+1))) (n / 2^(8*j)%256)=n / 2^(8*j):=by
   unfold kJ
   rw [p256,← Nat.div_div_eq_div_mul]
   generalize n / 2^(8*j)=x at *
   omega
  rw [e]
  exact h
theorem lt_of_bl {a k:Nat} (h:bl a≤k):a<2^k:=by
 rcases Nat.lt_or_ge a (2^k) with h1|h1
 ·exact h1
 ·have:=bl_gt h1;omega
theorem low_lt {n:Nat} (hn:n<18446744073709551616):n / 2^(8*(sz n-1))<2^(8-sz n):=by
 have hs:=sz_le n
 have hb:bl n≤64:=bl_le (by show n<18446744073709551616;exact hn)
 have hlt:=lt_of_bl (Nat.le_refl (bl n))
 rw [Nat.div_lt_iff_lt_mul (Nat.two_pow_pos _),← Nat.pow_add]
 refine Nat.lt_of_lt_of_le hlt (Nat.pow_le_pow_right (by decide) ?_)
 unfold sz at *
 omega
theorem numV_enc {n:Nat} (hn:n<18446744073709551616) (r:List Nat):gG (encL n++r)=(n,sz n,0):=by
 have hs:=sz_le n
 have hl:=low_lt hn
 have hl2:n / 2^(8*(sz n-1))<256:=Nat.lt_of_lt_of_le hl (by rw [show (256:Nat)=2^8 by decide];exact Nat.pow_le_pow_right (by decide) (by omega))
 obtain ⟨h1,h2⟩:=head_fact ⟨sz n,by omega⟩ ⟨_,hl2⟩ hs.1 hl
 simp only at h1 h2
 have eh:head1 n (sz n)=(255*2^(9-sz n)%256)|||(n / 2^(8*(sz n-1))):=by unfold head1;rw [Nat.mod_eq_of_lt hl2]
 have hlen:=length_big n (sz n-1)
 simp only [encL,List.cons_append,gG,eh,h1]
 rw [if_neg (by simp [hlen])]
 have et:(big n (sz n-1)++r).take (sz n-1)=big n (sz n-1):=by
  conv=>lhs;rw [← hlen]
  rw [hlen];exact List.take_left' hlen
 rw [et,h2,fold_big hn,if_pos rfl]
theorem big_fold:∀ (R:List Nat) (low:Nat),(low+1)*2^(8*R.length)≤18446744073709551616→(∀ x∈R,x<256) →
  big (R.foldl kJ low) R.length=R∧R.foldl kJ low / 2^(8*R.length)=low
 | [],low,_,_=>by simp [big]
 | x::R,low,h,hR=>by
  have hx:=hR x (by simp)
  simp only [List.length_cons,p256] at h ⊢
  have hp:=Nat.two_pow_pos (8*R.length)
  have h1:(low+1)*256*2^(8*R.length)≤18446744073709551616:=by rw [Nat.mul_assoc,Nat.mul_comm 256];exact h
  have h2:(low*256+x+1)*2^(8*R.length)≤18446744073709551616:=Nat.le_trans (Nat.mul_le_mul_right _ (by omega)) h1
  have h3:(low+1)*256≤18446744073709551616:=Nat.le_trans (Nat.le_mul_of_pos_right _ hp) h1
  have es:kJ low x=low*256+x:=by unfold kJ;omega
  obtain ⟨i1,i2⟩:=big_fold R (low*256+x) h2 (λ y hy=>hR y (List.mem_cons_of_mem _ hy))
  simp only [List.foldl_cons,es]
  refine ⟨?_,?_⟩
  ·rw [big,i2,i1]
   congr 1
   omega
  ·rw [← Nat.div_div_eq_div_mul,i2]
   omega
theorem numV_back {r:List Nat} {v k:Nat} (hr:∀ x∈r,x<256) (h:gG r=(v,k,0)):r=encL v++r.drop k∧k=sz v∧v<18446744073709551616:=by
 cases r with
 | nil=>simp [gG] at h
 | cons f t =>
  have hf:=hr f (by simp)
  have hc:=cnt_bd (f:=f)
  obtain ⟨h1,h2⟩:=head_back ⟨f,hf⟩
  simp only at h1 h2
  simp only [gG] at h
  split at h
  ·simp at h
  ·rename_i hs
   split at h
   ·rename_i hz
    simp only [Prod.mk.injEq,and_true] at h
    obtain ⟨hv,hk⟩:=h
    have hlen:(t.take (cnt f-1)).length=cnt f-1:=by simp;omega
    have hR:∀ x∈t.take (cnt f-1),x<256:=λ x hx=>hr x (List.mem_cons_of_mem _ (List.mem_of_mem_take hx))
    have hlow:f&&&(255 / 2^cnt f)<256:=Nat.lt_of_le_of_lt Nat.and_le_left hf
    have hfit:(f&&&(255 / 2^cnt f))+1≤2^(8-cnt f):=h2
    obtain ⟨b1,b2⟩:=big_fold (t.take (cnt f-1)) (f&&&(255 / 2^cnt f)) (by
     rw [hlen]
     refine Nat.le_trans (Nat.mul_le_mul_right _ hfit) ?_
     rw [← Nat.pow_add]
     exact Nat.pow_le_pow_right (n:=2) (j:=64) (by decide) (by omega)) hR
    have hlt:=fold_lt (t.take (cnt f-1)) (f&&&(255 / 2^cnt f)) (by omega) hR
    rw [hv] at b1 b2 hz hlt
    rw [hlen] at b1 b2
    refine ⟨?_,by omega,hlt⟩
    subst hk
    have e1:encL v=f::t.take (cnt f-1):=by
     unfold encL head1
     rw [hz,b1,b2,Nat.mod_eq_of_lt hlow,h1]
    rw [e1]
    obtain ⟨m,hm⟩:∃ m,cnt f=m+1:=⟨cnt f-1,by omega⟩
    rw [hm]
    simp
   ·simp at h
end Go.Proofs.YtfpadnmdafiddaaGreatDoor
namespace Go.Proofs.YtfpadnmdafiddaaGreatDoor
def kM (r:Bs):Option (Bs×Bs) :=
 if (gG r).2.2=0 then
  if (gG r).1≤(r.drop (gG r).2.1).length then some ((r.drop (gG r).2.1).take (gG r).1,(r.drop (gG r).2.1).drop (gG r).1) else none
 else none
def le4 (r:Bs):Nat:=r.getD 0 0+256*r.getD 1 0+65536*r.getD 2 0+16777216*r.getD 3 0
def rdWord (r:Bs):Option (Nat×Bs):=if 4≤r.length then some (le4 r,r.drop 4) else none
def kT:Nat→Bs→Option (dS×Bs)
 | 0,r=>some ([],r)
 | c+1,r=>match kM r with
  | none=>none
  | some (k,r1)=>match kM r1 with
   | none=>none
   | some (v,r2)=>match kT c r2 with
    | none=>none
    | some (l,r3)=>some ((k,v)::l,r3)
def rdKids:Nat→Bs→Option (List Nat×Bs)
 | 0,r=>some ([],r)
 | c+1,r=>match rdWord r with
  | none=>none
  | some (k,r1)=>match rdKids c r1 with
   | none=>none
   | some (l,r3)=>some (k::l,r3)
def rdKeys:Nat→Bs→Option (List Bs×Bs)
 | 0,r=>some ([],r)
 | c+1,r=>match kM r with
  | none=>none
  | some (k,r1)=>match rdKeys c r1 with
   | none=>none
   | some (l,r3)=>some (k::l,r3)
def finN (n:Nd) (r:Bs):Option Nd:=if r.all (λ x=>x==0)&&cH n then some n else none
def gB (b:Bs):Option Nd :=
 match b with
 | kd::c::r =>
  if 8<c then none
  else if kd=0 then (match kT c r with
   | none=>none
   | some (l,r1)=>finN ⟨l,[],[]⟩ r1)
  else if kd=1∧2≤c then (match rdKids c r with
   | none=>none
   | some (l,r1)=>match rdKeys (c-1) r1 with
    | none=>none
    | some (ks,r2)=>finN ⟨[],l,ks⟩ r2)
  else none
 | _=>none
theorem readN_ok {b:Bs} {n:Nd} (h:gB b=some n):cH n=true:=by
 have hf:∀ m r,finN m r=some n→cH n=true:=by
  intro m r h
  unfold finN at h
  split at h
  ·rename_i hc
   cases h
   exact (Bool.and_eq_true _ _▸hc).2
  ·cases h
 unfold gB at h
 split at h
 ·split at h
  ·cases h
  ·split at h
   ·split at h
    ·cases h
    ·exact hf _ _ h
   ·split at h
    ·split at h
     ·cases h
     ·split at h
      ·cases h
      ·exact hf _ _ h
    ·cases h
 ·cases h
theorem rdBlk_enc {p:Bs} (hp:p.length<18446744073709551616) (t:Bs):kM (jO p++t)=some (p,t):=by
 unfold kM jO
 rw [List.append_assoc,numV_enc hp]
 have e:(encL p.length++(p++t)).drop (sz p.length)=p++t:=by
  rw [← length_encL];exact List.drop_left' rfl
 simp only [e]
 simp
theorem rdWord_enc {n:Nat} (hn:n<4294967296) (t:Bs):rdWord (fQ n++t)=some (n,t):=by
 unfold rdWord fQ
 simp [le4]
 omega
theorem rdItems_enc:∀ (l:dS) (t:Bs),(∀ x∈l,x.1.length<1000∧x.2.length<1000)→kT l.length (l.flatMap (λ x=>jO x.1++jO x.2)++t)=some (l,t)
 | [],t,_=>rfl
 | x::l,t,h=>by
  have hx:=h x (by simp)
  simp only [List.flatMap_cons,List.length_cons,kT,List.append_assoc]
  rw [rdBlk_enc (by omega)]
  simp only
  rw [rdBlk_enc (by omega)]
  simp only
  rw [rdItems_enc l t (λ y hy=>h y (List.mem_cons_of_mem _ hy))]
theorem rdKids_enc:∀ (l:List Nat) (t:Bs),(∀ x∈l,x<4294967296)→rdKids l.length (l.flatMap fQ++t)=some (l,t)
 | [],t,_=>rfl
 | x::l,t,h=>by
  have hx:=h x (by simp)
  simp only [List.flatMap_cons,List.length_cons,rdKids,List.append_assoc]
  rw [rdWord_enc hx]
  simp only
  rw [rdKids_enc l t (λ y hy=>h y (List.mem_cons_of_mem _ hy))]
theorem rdKeys_enc:∀ (l:List Bs) (t:Bs),(∀ x∈l,x.length<1000)→rdKeys l.length (l.flatMap jO++t)=some (l,t)
 | [],t,_=>rfl
 | x::l,t,h=>by
  have hx:=h x (by simp)
  simp only [List.flatMap_cons,List.length_cons,rdKeys,List.append_assoc]
  rw [rdBlk_enc (by omega)]
  simp only
  rw [rdKeys_enc l t (λ y hy=>h y (List.mem_cons_of_mem _ hy))]
theorem nC {f:Nat→Bool} {n:Nat} (h:gF f n=true) {i:Nat} (hi:i<n):f i=true:=List.all_eq_true.1 h i (List.mem_range.2 hi)
theorem nB {f:Nat→Bool} {n:Nat} (h:∀ i,i<n→f i=true):gF f n=true:=List.all_eq_true.2 λ i hi=>h i (List.mem_range.1 hi)
theorem mG {l:dS} (h:gF (iB l) l.length=true) {x:Bs×Bs} (hx:x∈l):dR x.1=true∧gH x.2=true:=by
 obtain ⟨i,hi,rfl⟩:=List.mem_iff_getElem.1 hx
 have h:=nC h hi
 simp only [iB,List.getElem?_eq_getElem hi,Bool.and_eq_true] at h
 exact h.1
theorem key_ok' {l:List Bs} (h:gF (jP l) l.length=true) {x:Bs} (hx:x∈l):dR x=true:=by
 obtain ⟨i,hi,rfl⟩:=List.mem_iff_getElem.1 hx
 have h:=nC h hi
 simp only [jP,List.getElem?_eq_getElem hi,Bool.and_eq_true] at h
 exact h.1
theorem kid_ok {l:List Nat} (h:gF (kO l) l.length=true) {x:Nat} (hx:x∈l):x<2147483648:=by
 obtain ⟨i,hi,rfl⟩:=List.mem_iff_getElem.1 hx
 have h:=nC h hi
 simp only [kO,List.getElem?_eq_getElem hi,Bool.and_eq_true,decide_eq_true_eq] at h
 exact h.1
theorem gV {k:Bs} (h:dR k=true):1≤k.length∧k.length≤16:=by simpa [dR] using h
theorem kZ {k:Bs} (h:gH k=true):k.length≤32:=by simpa [gH] using h
theorem cU {n:Nd} (h:wholeB n=true):n.items=[]∧2≤n.kids.length∧n.kids.length≤8∧n.keys.length+1=n.kids.length∧gF (kO n.kids) n.kids.length=true∧gF (jP n.keys) n.keys.length=true:=by
 simp only [wholeB,Bool.and_eq_true,decide_eq_true_eq,List.isEmpty_iff] at h
 exact ⟨h.1.1.1.1.1,h.1.1.1.1.2,h.1.1.1.2,h.1.1.2,h.1.2,h.2⟩
theorem dL {n:Nd} (h:wholeL n=true):n.keys=[]∧n.items.length≤8∧gF (iB n.items) n.items.length=true:=by
 simp only [wholeL,Bool.and_eq_true,decide_eq_true_eq,List.isEmpty_iff] at h
 exact ⟨h.1.1,h.1.2,h.2⟩
theorem dK {n:Nd}:cK n=true↔n.kids=[]:=List.isEmpty_iff
theorem all0 (n:Nat):(List.replicate n 0).all (λ x=>x==0)=true:=by
 rw [List.all_eq_true]
 intro x hx
 have:=List.eq_of_mem_replicate hx
 subst this
 rfl
theorem readN_bytes {n:Nd} (h:cH n=true) (z:Nat):gB (fI n++List.replicate z 0)=some n:=by
 have hk:=h
 unfold cH at h
 unfold fI
 split at h
 ·rename_i hl
  obtain ⟨h1,h2,h3⟩:=dL h
  have h4:=dK.1 hl
  rw [if_pos hl]
  simp only [List.cons_append,List.nil_append,gB]
  rw [if_neg (by omega),if_pos trivial,rdItems_enc n.items _ (λ x hx=>by
   have:=mG h3 hx
   have:=gV this.1
   have:=kZ (mG h3 hx).2
   omega)]
  simp only [finN]
  have e:(⟨n.items,[],[]⟩:Nd)=n:=by cases n;simp_all
  rw [e,all0,hk]
  rfl
 ·rename_i hl
  obtain ⟨h1,h2,h3,h4,h5,h6⟩:=cU h
  rw [if_neg hl]
  simp only [List.cons_append,List.nil_append,gB]
  rw [if_neg (by omega),if_neg (by omega),if_pos ⟨trivial,h2⟩,List.append_assoc,rdKids_enc n.kids _ (λ x hx=>by have:=kid_ok h5 hx;omega)]
  simp only
  rw [show n.kids.length-1=n.keys.length by omega,rdKeys_enc n.keys _ (λ x hx=>by have:=gV (key_ok' h6 hx);omega)]
  simp only [finN]
  have e:(⟨[],n.kids,n.keys⟩:Nd)=n:=by cases n;simp_all
  rw [e,all0,hk]
  rfl
end Go.Proofs.YtfpadnmdafiddaaGreatDoor
namespace Go.Proofs.YtfpadnmdafiddaaGreatDoor
def dQ (s:Pg) (n:Nat):Option Nd:=if cV s n then gB (s.body n) else none
def fU (s:Pg) (n:Nd):Option (Nat×Pg):=if cH n then newP s (fI n) else none
def dE {α : Type} (l:List α) (at':Nat) (x:List α):List α:=l.take at'++x++l.drop at'
def cL {α : Type} (l:List α) (a b:Nat):List α:=l.take a++l.drop b
def hZ (s:Pg) (key:Bs):Nat→Nat→Option (List (Nd×Nat)×Bool)
 | 0,_=>none
 | f+1,n=>match dQ s n with
  | none=>none
  | some nd =>
   if cK nd then some ([(nd,fX nd.items key)],gA nd.items key)
   else match nd.kids[iR nd.keys key]? with
    | none=>none
    | some k=>match hZ s key f k with
     | none=>none
     | some (l,th)=>some ((nd,iR nd.keys key)::l,th)
def eH (n:Nd) (at':Nat) (up:Nd) (item:Bs×Bs) (there:Bool):Nd :=
 if cK n then (if there then { n with items:=dE (cL n.items at' (at'+1)) at' [item] } else { n with items:=dE n.items at' [item] })
 else { n with kids:=dE (cL n.kids at' (at'+1)) at' up.kids,keys:=dE n.keys at' up.keys }
def dM (n:Nd):Nd×Nd×Bs :=
 if cK n then (⟨cL n.items 4 n.items.length,[],[]⟩,⟨cL n.items 0 4,[],[]⟩,((cL n.items 0 4).getD 0 ([],[])).1)
 else (⟨[],cL n.kids 4 n.kids.length,cL n.keys 3 n.keys.length⟩,⟨[],cL n.kids 0 4,cL n.keys 0 4⟩,n.keys.getD 3 [])
def storeP (s:Pg) (n:Nd):Option (Nd×Pg) :=
 if 8<bK n then match fU s (dM n).1 with
  | none=>none
  | some (p,s1)=>match fU s1 (dM n).2.1 with
   | none=>none
   | some (q,s2)=>some (⟨[],[p,q],[(dM n).2.2]⟩,s2)
 else match fU s n with
  | none=>none
  | some (p,s1)=>some (⟨[],[p],[]⟩,s1)
def putUp (item:Bs×Bs) (there:Bool):List (Nd×Nat)→Pg→Option (Nd×Pg)
 | [],s=>some (nd0,s)
 | f::r,s=>match putUp item there r s with
  | none=>none
  | some (up,s1)=>storeP s1 (eH f.1 f.2 up item there)
def putP (s:Pg) (root:Option Nat) (key v:Bs):Option (Nat×Pg) :=
 match root with
 | none=>fU s ⟨[(key,v)],[],[]⟩
 | some n=>match hZ s key 16 n with
  | none=>none
  | some (l,there)=>match putUp (key,v) there l s with
   | none=>none
   | some (up,s1)=>match up.kids with
    | [k]=>some (k,s1)
    | _=>fU s1 up
def lM (a:Nd) (key:Bs) (b:Nd):Nd:=if cK a then ⟨a.items++b.items,[],[]⟩ else ⟨[],a.kids++b.kids,a.keys++[key]++b.keys⟩
def fW (a:Nd) (key:Bs) (b:Nd):Nd×Bs×Nd :=
 if cK a then
  let k:=a.items.length-1
  let bi:=dE b.items 0 [a.items.getD k ([],[])]
  ({ a with items:=cL a.items k (k+1) },(bi.getD 0 ([],[])).1,{ b with items:=bi })
 else
  let k:=a.kids.length-1
  ({ a with kids:=cL a.kids k (k+1),keys:=cL a.keys (k-1) k },a.keys.getD (k-1) [],{ b with kids:=dE b.kids 0 [a.kids.getD k 0],keys:=dE b.keys 0 [key] })
def iS (a:Nd) (key:Bs) (b:Nd):Nd×Bs×Nd :=
 if cK a then
  let bi:=cL b.items 0 1
  ({ a with items:=dE a.items a.items.length [b.items.getD 0 ([],[])] },(bi.getD 0 ([],[])).1,{ b with items:=bi })
 else
  ({ a with kids:=dE a.kids a.kids.length [b.kids.getD 0 0],keys:=dE a.keys a.keys.length [key] },b.keys.getD 0 [],{ b with kids:=cL b.kids 0 1,keys:=cL b.keys 0 1 })
def mB (n:Nd) (first:Nat) (kids:List Nat) (keys:List Bs):Nd :=
 { n with kids:=dE (cL n.kids first (first+2)) first kids,keys:=dE (cL n.keys first (first+1)) first keys }
def eI (s:Pg):List Nd→Option (List Nat×Pg)
 | []=>some ([],s)
 | x::r=>match fU s x with
  | none=>none
  | some (p,s1)=>match eI s1 r with
   | none=>none
   | some (l,s2)=>some (p::l,s2)
def gX (sib low:Nd) (at':Nat) (key:Bs):List Nd×List Bs :=
 let a:=if at'=0 then low else sib
 let b:=if at'=0 then sib else low
 if bK sib≤4 then ([lM a key b],[])
 else if 0<at' then ([(fW a key b).1,(fW a key b).2.2],[(fW a key b).2.1])
 else ([(iS a key b).1,(iS a key b).2.2],[(iS a key b).2.1])
def repairP (s:Pg) (n:Nd) (at':Nat) (low:Nd):Option (Nd×Pg) :=
 let first:=at'-1
 let other:=if at'=0 then 1 else first
 match n.kids[other]? with
 | none=>none
 | some k=>match dQ s k with
  | none=>none
  | some sib =>
   if cK sib != cK low then none
   else match eI s (gX sib low at' (n.keys.getD first [])).1 with
    | none=>none
    | some (kids,s1)=>some (mB n first kids (gX sib low at' (n.keys.getD first [])).2,s1)
def lowerP (s:Pg) (n:Nd) (at':Nat) (low:Nd):Option (Nd×Pg) :=
 if bK low<4 then repairP s n at' low
 else match fU s low with
  | none=>none
  | some (p,s1)=>some ({ n with kids:=dE (cL n.kids at' (at'+1)) at' [p] },s1)
def mY:List (Nd×Nat)→Pg→Option (Nd×Pg)
 | [],s=>some (nd0,s)
 | f::r,s=>match mY r s with
  | none=>none
  | some (low,s1)=>if cK f.1 then some ({ f.1 with items:=cL f.1.items f.2 (f.2+1) },s1) else lowerP s1 f.1 f.2 low
def delP (s:Pg) (l:List (Nd×Nat)):Option (Option Nat×Pg) :=
 match mY l s with
 | none=>none
 | some (low,s1) =>
  if bK low=0 then some (none,s1)
  else match low.kids with
   | [k]=>some (some k,s1)
   | _=>match fU s1 low with
    | none=>none
    | some (p,s2)=>some (some p,s2)
structure Part where
 node:Nd
 levels:Nat
 low:Bs
 high:Bs
abbrev eN:=List (Nat×Part)
def fH (m:eN) (n:Nat):Option Part:=(m.find? λ x=>x.1==n).map (·.2)
def fG (nd:Nd):Part:=⟨nd,1,(nd.items.getD 0 ([],[])).1,(nd.items.getD (nd.items.length-1) ([],[])).1⟩
def lN (rec:Nat→eN→Option (Part×eN)) (nd:Nd):List Nat→Nat→Part→eN→Option (Part×eN)
 | [],_,t,m=>if 16<t.levels then none else some (t,m)
 | k::r,i,t,m=>match rec k m with
  | none=>none
  | some (p,m1) =>
   let t1:Part:=if i=0 then ⟨nd,p.levels+1,p.low,p.high⟩ else ⟨nd,t.levels,t.low,p.high⟩
   if bK p.node<4 || !(p.levels+1==t1.levels) || (decide (0<i)&&decide (dU p.low (nd.keys.getD (i-1) [])<0)) || (decide (i<nd.keys.length)&&decide (0≤dU p.high (nd.keys.getD i []))) then none
   else lN rec nd r (i+1) t1 m1
def kN (s:Pg):Nat→Nat→eN→Option (Part×eN)
 | f,n,m=>match fH m n with
  | some t=>some (t,m)
  | none=>match f with
   | 0=>none
   | f+1=>match dQ s n with
    | none=>none
    | some nd =>
     if cK nd then some (fG nd,(n,fG nd)::m)
     else match lN (kN s f) nd nd.kids 0 ⟨nd,0,[],[]⟩ m with
      | none=>none
      | some (t,m1)=>some (t,(n,t)::m1)
def treeP (s:Pg) (root:Option Nat) (m:eN):Option (Nat×eN) :=
 match root with
 | none=>some (0,m)
 | some n=>match kN s 16 n m with
  | none=>none
  | some (t,m1)=>if bK t.node=0 then none else some (t.levels,m1)
def fM (m:eN):Nat→Nat→dS
 | 0,_=>[]
 | f+1,n=>match fH m n with
  | none=>[]
  | some t=>t.node.items++t.node.kids.flatMap (fM m f)
end Go.Proofs.YtfpadnmdafiddaaGreatDoor
namespace Go.Proofs.YtfpadnmdafiddaaGreatDoor
open Go Go.RowKit Go.V
theorem oread_c (F:Nat→Prop) (a:Option Addr) (n c:Nat) (l:List Nat) (w:World) (hs:Sl F w 1 a n c (cX l)) (hn:n≤1099511627776) :
  Calls Tryz.prog 220 #[.slice a n c] w (Ret λ v w'=>∃ b a' c',v=.pointer (some ⟨b,0,none⟩)∧w.heap.size≤b∧b<w'.heap.size∧Blk w' b 329 (rdr b a' n c' 0 0)∧Sl (λ k=>w.heap.size≤k∧k<b) w' 1 a' n c' (cX l)∧Grow w w'):=by
 refine V.calls (args:=[_]) Tryz.func220 rfl Tryz.ntmps220 rfl rfl ?_
 repeat (first|(refine aB ?_;refine TL.pure rfl rfl ?_)|(refine aD ?_;refine TL.pure rfl rfl ?_)|refine TL.nil ?_|refine aA ?_|refine aJ ?_|refine aC ?_)
 refine aI rfl (grown_c F a n c 0 (cX l) _ hs (dY _) (by omega)) rfl ?_
 rintro v1 w1 ⟨hown,hg0⟩
 obtain ⟨a1,c1,rfl,hsl⟩:=cE hown
 have hsz0:=hg0.size
 repeat (first|(refine aB ?_;refine TL.pure rfl rfl ?_)|(refine aD ?_;refine TL.pure rfl rfl ?_)|refine aF rfl rfl ?_|refine TL.nil ?_|refine aA ?_|refine aJ ?_|refine aC ?_|(refine aP ?_;(refine bP rfl rfl yB (by exact rfl) (by exact rfl) (by exact rfl) ?_;intro w' hu hbk hsz))|(refine bW ?_;(refine TL.box rfl rfl rfl ?_;intro bk w' hg hbk hsz hsz'))|refine TL.build rfl rfl rfl ?_|refine bL rfl rfl ?_|refine bC ?_)
 have hb1:Blk w' bk 329 (rdr bk a1 n c1 0 0):=hbk
 exact cF rfl ⟨_,rfl,bk,a1,c1,rfl,by omega,by omega,hb1,((hsl.tight.grow hg).upd hu (λ k hk=>by omega)).mono (λ k hk=>⟨hk.1.1,by omega⟩),aZ hu (by omega) (hg0.trans hg)⟩
theorem own_c (F:Nat→Prop) (a:Option Addr) (n c:Nat) (l:List Nat) (w:World) (hs:Sl F w 1 a n c (cX l)) (hn:n≤1099511627776) :
  Calls Tryz.prog 20 #[.slice a n c] w (Ret λ v w'=>w'.ownsRow w.heap.size 5 1 v n (cX l)∧Grow w w'):=by
 refine V.calls (args:=[_]) Tryz.func20 rfl Tryz.ntmps20 rfl rfl ?_
 repeat (first|(refine aB ?_;refine TL.pure rfl rfl ?_)|(refine aD ?_;refine TL.pure rfl rfl ?_)|refine TL.nil ?_|refine aA ?_|refine aJ ?_|refine aC ?_|(refine mM ?_;(refine jM rfl ?_;intro bk w' hg hbk hsz hsz')))
 refine iU rfl rfl (own_empty hbk (Nat.le_of_eq hsz)) (hs.grow hg) (dY l) (by omega) (by omega) rfl ?_
 intro v' w2 hown hg2
 repeat (first|(refine aD ?_;refine TL.pure rfl rfl ?_)|refine TL.nil ?_|refine aA ?_|refine bC ?_)
 exact cF rfl ⟨_,rfl,hown,yG⟩
end Go.Proofs.YtfpadnmdafiddaaGreatDoor
namespace Go.Proofs.YtfpadnmdafiddaaGreatDoor
open Go Go.RowKit Go.V
def Rd (B b:Nat) (r:List Nat) (e:Nat) (w:World):Prop :=
 ∃ a n c p L,Blk w b 329 (rdr b a n c p e)∧Sl (λ k=>B≤k∧k<b) w 1 a n c (cX L)∧p≤n∧n≤1099511627776∧(∀ x∈L,x<256)∧L.drop p=r
theorem Rd.grow {B b e:Nat} {r:List Nat} {w w':World} (h:Rd B b r e w) (g:Grow w w'):Rd B b r e w':=by
 obtain ⟨a,n,c,p,L,h1,h2,h3⟩:=h
 exact ⟨a,n,c,p,L,h1.grow g,h2.grow g,h3⟩
theorem rderr_c {B b e:Nat} {r:List Nat} (w:World) (h:Rd B b r e w):Calls Tryz.prog 222 #[.pointer (some ⟨b,0,none⟩)] w (Ret λ v w'=>v=.int .i64 (e:Int)∧w=w'):=by
 obtain ⟨a,n,c,p,L,h1,h2,h3⟩:=h
 exact err_c b a n c p e w h1
theorem numV_le (f:Nat) (t:List Nat):(gG (f::t)).2.1≤(f::t).length:=by
 have hc:=cnt_bd (f:=f)
 simp only [gG]
 split
 ·simp
 ·split
  ·simp only [List.length_cons];omega
  ·simp
end Go.Proofs.YtfpadnmdafiddaaGreatDoor
namespace Go.V
open Go Go.RowKit
structure Carry (F:Nat→Prop) (w:World) (F':Nat→Prop) (w':World):Prop where
 size:w.heap.size≤w'.heap.size
 blk:∀ k,F k→k<w.heap.size→F' k∧w'.heap[k]? = w.heap[k]?
theorem Sl.go {F F':Nat→Prop} {w w':World} {sz:Nat} {a:Option Addr} {n c:Nat} {cs:List Value} (h:Sl F w sz a n c cs) (g:Carry F w F' w'):Sl F' w' sz a n c cs :=
 ⟨h.len,h.cap,h.max,h.nil,by
  have hr:=h.row
  cases a with
  | none=>exact hr
  | some p=>exact λ hn=>(λ h=>⟨h.1,(g.blk _ h.2.1 h.2.2.1).1,Nat.lt_of_lt_of_le h.2.2.1 g.size,λ j v hj=>(World.cell?_of_block (w:=w) (a:=⟨p.block,p.off+j,none⟩) (g.blk p.block h.2.1 h.2.2.1).2).trans (h.2.2.2 j v hj)⟩) (hr hn)⟩
theorem Carry.grow {F:Nat→Prop} {w w':World} (g:Grow w w'):Carry F w F w':=⟨g.size,λ k hk h=>⟨hk,g.block k h⟩⟩
theorem Carry.upd {F:Nat→Prop} {w w':World} {b:Nat} (u:Upd b w w') (hb:∀ k,F k→k<w.heap.size→k≠b):Carry F w F w':=⟨Nat.le_of_eq u.size.symm,λ k hk h=>⟨hk,u.block k (hb k hk h)⟩⟩
theorem Carry.mono {F F':Nat→Prop} {w:World} (h:∀ k,F k→k<w.heap.size→F' k):Carry F w F' w:=⟨Nat.le_refl _,λ k hk hl=>⟨h k hk hl,rfl⟩⟩
theorem Carry.trans {F G H:Nat→Prop} {a b c:World} (g:Carry F a G b) (h:Carry G b H c):Carry F a H c :=
 ⟨Nat.le_trans g.size h.size,λ k hk hl=>by
  obtain ⟨h1,h2⟩:=g.blk k hk hl
  obtain ⟨h3,h4⟩:=h.blk k h1 (Nat.lt_of_lt_of_le hl g.size)
  exact ⟨h3,h4.trans h2⟩⟩
def concB (P:Program) (t:TypeId):Bool:=match P.underlying t with|some (.interface _)=>false|some _=>true|none=>false
class ConcTy (P:Program) (t:TypeId):Prop where
 h:concB P t=true
def methB (P:Program) (t:TypeId) (s:String) (q:FuncId):Bool :=
 match P.info? t,P.underlying t with
 | some i,some u=>match i.methods.find? (·.name==s) with
  | some mm=>mm.path.isEmpty&&(match mm.func,u with
   | some (f,true),.pointer _=>Nat.beq f q
   | some (f,false),.pointer _=>false
   | some (f,false),_=>Nat.beq f q
   | _,_=>false)
  | none=>false
 | _,_=>false
class MethTy (P:Program) (t:TypeId) (s:String) (q:outParam FuncId):Prop where
 h:methB P t s q=true
theorem ConcTy.und {P:Program} {t:TypeId} (h:ConcTy P t):∃ u,P.underlying t=some u∧∀ ms,u≠.interface ms:=by
 have h:=h.h
 unfold concB at h
 split at h
 ·cases h
 ·rename_i u hn hu;exact ⟨u,hu,λ ms e=>hn ms e⟩
 ·cases h
section
variable [Rn]
variable {P:Program} {n:Nat} {e:dN} {w:World} {Q:dO} {ops:Array Oper} {rest:List Oper} {d:Nat} {ty:TypeId} {pos:String} {aft:Array Edge}
theorem TL.makeIface {t:TypeId} {x:Operand} {v:Value} [ht:ConcTy P t] (hx:val e x=some v) (hd:Nat.blt d n=true) (k:TL P n ops rest ((d,.iface t v)::e) w Q) :
  TL P n ops (⟨some d,.makeInterface t x,ty,pos,aft,none⟩::rest) e w Q :=
 TL.run (λ a ha=>by
  obtain ⟨u,hu,hn⟩:=ht.und
  cases u<;>first|exact absurd rfl (hn _)|simp [execOp,ha.eval hx,Instr.makeInterface,underlying,hu]) hd k
theorem kY {t s:TypeId} {x:Operand} {v:Value} [ht:ConcTy P t] (hx:val e x=some (.iface t v)) (hd:Nat.blt d n=true) (k:TL P n ops rest ((d,.tuple #[v,.bool true])::e) w Q) :
  TL P n ops (⟨some d,.typeAssert x s t true,ty,pos,aft,none⟩::rest) e w Q :=
 TL.run (λ a ha=>by
  obtain ⟨u,hu,hn⟩:=ht.und
  cases u<;>first|exact absurd rfl (hn _)|simp [execOp,ha.eval hx,Instr.typeAssert,underlying,hu]) hd k
theorem TL.assertNo {t s r:TypeId} {x:Operand} {v z:Value} [ht:ConcTy P t] [hz:Zero P t z] (hx:val e x=some (.iface r v)) (hr:Nat.beq r t=false) (hd:Nat.blt d n=true) (k:TL P n ops rest ((d,.tuple #[z,.bool false])::e) w Q) :
  TL P n ops (⟨some d,.typeAssert x s t true,ty,pos,aft,none⟩::rest) e w Q :=
 TL.run (λ a ha=>by
  obtain ⟨u,hu,hn⟩:=ht.und
  have hne:=Nat.ne_of_beq_eq_false hr
  cases u<;>first|exact absurd rfl (hn _)|simp [execOp,ha.eval hx,Instr.typeAssert,underlying,hu,hne,hz.run]) hd k
theorem meth_run {t:TypeId} {s:String} {q:FuncId} (h:methB P t s q=true) (fuel:Nat) (v:Value) (w:World):(method (fuel+1) t v s).run P w=.ok (q,v) w:=by
 unfold methB at h
 split at h
 rotate_left
 ·cases h
 rename_i i u hi hu
 split at h
 rotate_left
 ·cases h
 rename_i mm hm
 simp only [Bool.and_eq_true] at h
 obtain ⟨hp,h⟩:=h
 have hp':mm.path.toList=[]:=by simpa [Array.isEmpty_iff] using hp
 unfold method
 have e1:(typeInfo t).run P w=.ok i w:=by simp [typeInfo,hi]
 simp only [Sem.run_bind,e1,Result.andThen_ok,hm,hp',follow,Sem.run_pure,hp]
 split at h
 ·rename_i f e hf
  cases Nat.eq_of_beq_eq_true h
  simp [hf,receiverAt,underlying,hu,Place.get]
 ·cases h
 ·rename_i u f hne hf _
  cases Nat.eq_of_beq_eq_true h
  cases u<;>simp [hf,receiverAt,underlying,hu,Place.get]
 ·cases h
theorem TL.invoke0 {t:TypeId} {s:String} {q:FuncId} {x:Operand} {tys:Array TypeId} {v:Value} {R:Value→World→Prop} [hm:MethTy P t s q] [hf:FnOk P q] (hx:val e x=some (.iface t v))
  (hc:Calls P q #[v] w (Ret R)) (hd:Nat.blt d n=true) (k:∀ u w',R u w'→TL P n ops rest ((d,u)::e) w' Q) :
  TL P n ops (⟨some d,.call ⟨.invoke x s,#[],tys⟩,ty,pos,aft,none⟩::rest) e w Q:=TL.mk λ a ha =>
 wpListIn_plain rfl λ K hK=>by
  have hr:(execOp a.eval ⟨some d,.call ⟨.invoke x s,#[],tys⟩,ty,pos,aft,none⟩).run P w=.ok (.enter q #[v]) w:=by
   have h2:=kS (P:=P) (f:=q) #[v] w
   simp only [execOp,resolve,ha.eval hx,Sem.run_bind,Sem.run_pure,Result.andThen_ok,invoke,callMethod,run_program,show P.types.size+Made.depth=P.types.size+99+1 from rfl]
   simp [meth_run hm.h,callMethod,h2,Result.andThen,show P.types.size+Made.depth=P.types.size+99+1 from rfl]
  refine Oper.wpFR _ (.inr (.inr (.inl ⟨_,_,_,hr,Calls.mono hc ?_⟩)))
  rintro x w' ⟨v,rfl,hv⟩
  exact ⟨v,rfl,hK _ _ ((k v w' hv).out (ha.put hd v))⟩
theorem TL.minV {x y:Operand} {kd:IntKind} {p q r:Int} {t1 t2:TypeId} (hx:val e x=some (.int kd p)) (hy:val e y=some (.int kd q)) (hr:(if q<p then q else p)=r) (hd:Nat.blt d n=true)
  (k:TL P n ops rest ((d,.int kd r)::e) w Q):TL P n ops (⟨some d,.call ⟨.builtin .min,#[x,y],#[t1,t2]⟩,ty,pos,aft,none⟩::rest) e w Q :=
 TL.run (λ a ha=>by simp [execOp,resolve,invoke,builtin,Builtin.min_,Builtin.min2,ha.eval hx,ha.eval hy,← hr]) hd k
theorem TL.maxV {x y:Operand} {kd:IntKind} {p q r:Int} {t1 t2:TypeId} (hx:val e x=some (.int kd p)) (hy:val e y=some (.int kd q)) (hr:(if q > p then q else p)=r) (hd:Nat.blt d n=true)
  (k:TL P n ops rest ((d,.int kd r)::e) w Q):TL P n ops (⟨some d,.call ⟨.builtin .max,#[x,y],#[t1,t2]⟩,ty,pos,aft,none⟩::rest) e w Q :=
 TL.run (λ a ha=>by simp [execOp,resolve,invoke,builtin,Builtin.max_,Builtin.max2,ha.eval hx,ha.eval hy,← hr]) hd k
theorem eP {t m o:Nat} {x:Operand} {a:Option Addr} {F:Nat→Prop} {sz l c:Nat} {cs vs:List Value} [ht:Agg P t m] (hx:val e x=some (.pointer (some (at' a o)))) (hs:Sl F w sz a l c cs) (hv:∀ j v,vs[j]? = some v→cs[o+j]? = some v) (hl:vs.length=m)
  (hd:Nat.blt d n=true) (k:TL P n ops rest ((d,.agg vs.toArray)::e) w Q):TL P n ops (⟨some d,.load t x,ty,pos,aft,none⟩::rest) e w Q:=by
 have hc:∀ j v,vs[j]? = some v→w.cell? ((at' a o).add j)=some v:=by
  intro j v hj
  have h1:=hv j v hj
  have h2:=hs.row.cell h1
  cases a with
  | none=>have h3:=hs.row;simp only [Row] at h3;subst h3;simp at h1
  | some p=>rw [show at' (some p) o=⟨p.block,p.off+o,none⟩ from rfl,Addr.add_lit,Nat.add_assoc];exact h2
 exact TL.run (λ a ha=>by simp [execOp,Instr.loadAt,ha.eval hx,Instr.sureAddr,gT ht hl hc]) hd k
theorem gS {s:TypeId} {f off o:Nat} {x:Operand} {a:Option Addr} {F:Nat→Prop} {sz l c:Nat} {cs:List Value} {u:Value} [h:FieldAt P s f off] (hx:val e x=some (.pointer (some (at' a o)))) (hs:Sl F w sz a l c cs) (hu:cs[o]? = some u) (hd:Nat.blt d n=true)
  (k:TL P n ops rest ((d,.pointer (some (at' a (o+off))))::e) w Q):TL P n ops (⟨some d,.fieldAddr s x f,ty,pos,aft,none⟩::rest) e w Q:=by
 cases a with
 | none=>have h3:=hs.row;simp only [Row] at h3;subst h3;simp at hu
 | some p=>exact aF (b:=p.block) (o:=p.off+o) hx hd (by rw [Nat.add_assoc];exact k)
theorem two_at {cs:List Value} {k v:Value} {o:Nat} (h0:cs[o]? = some k) (h1:cs[o+1]? = some v):∀ j u,[k,v][j]? = some u→cs[o+j]? = some u:=by
 intro j u hj
 match j,hj with
 | 0,hj=>cases hj;exact h0
 | 1,hj=>cases hj;exact h1
theorem Sl.le {F:Nat→Prop} {sz:Nat} {a:Option Addr} {n c:Nat} {cs:List Value} (h:Sl F w sz a n c cs):n≤9223372036854775807:=by
 have h1:=h.cap
 have h2:=h.max
 unfold maxLen at h2
 omega
theorem TL.isMkIf {t1:TypeId} {x:Operand} {d:Option Nat} (h:TL P n ops (⟨d,.makeInterface t1 x,ty,pos,aft,none⟩::rest) e w Q):TL P n ops (⟨d,.makeInterface t1 x,ty,pos,aft,none⟩::rest) e w Q:=h
theorem mN {t1 t2:TypeId} {x:Operand} {b:Bool} {d:Option Nat} (h:TL P n ops (⟨d,.typeAssert x t1 t2 b,ty,pos,aft,none⟩::rest) e w Q):TL P n ops (⟨d,.typeAssert x t1 t2 b,ty,pos,aft,none⟩::rest) e w Q:=h
theorem mL {s:String} {x:Operand} {xs:Array Operand} {tys:Array TypeId} {d:Option Nat} (h:TL P n ops (⟨d,.call ⟨.invoke x s,xs,tys⟩,ty,pos,aft,none⟩::rest) e w Q):TL P n ops (⟨d,.call ⟨.invoke x s,xs,tys⟩,ty,pos,aft,none⟩::rest) e w Q:=h
end
end Go.V
namespace Go.Proofs.YtfpadnmdafiddaaGreatDoor
open Go Go.RowKit Go.V
def cB (l:List Nat):List Value:=l.map λ (k:Nat)=>.int .i64 (k:Int)
theorem jJ (l:List Nat):(cB l).length=l.length:=by simp [cB]
def BsAt (F:Nat→Prop) (w:World) (v:Value) (b:Bs):Prop:=∃ a n c,v=.slice a n c∧Sl F w 1 a n c (cX b)
def ItCells (F:Nat→Prop) (w:World):List Value→dS→Prop
 | [],[]=>True
 | k::v::cs,x::l=>BsAt F w k x.1∧BsAt F w v x.2∧ItCells F w cs l
 | _,_=>False
def KyCells (F:Nat→Prop) (w:World):List Value→List Bs→Prop
 | [],[]=>True
 | k::cs,x::l=>BsAt F w k x∧KyCells F w cs l
 | _,_=>False
theorem BsAt.go {F F':Nat→Prop} {w w':World} {v:Value} {b:Bs} (h:BsAt F w v b) (g:Carry F w F' w'):BsAt F' w' v b:=by
 obtain ⟨a,n,c,rfl,h⟩:=h
 exact ⟨a,n,c,rfl,h.go g⟩
theorem ItCells.go {F F':Nat→Prop} {w w':World} (g:Carry F w F' w'):∀ {cs:List Value} {l:dS},ItCells F w cs l→ItCells F' w' cs l
 | [],[],_=>trivial
 | [],_::_,h=>h.elim
 | [_],[],h=>h.elim
 | [_],_::_,h=>h.elim
 | _::_::_,[],h=>h.elim
 | _::_::_,_::_,⟨h1,h2,h3⟩=>⟨h1.go g,h2.go g,ItCells.go g h3⟩
theorem KyCells.go {F F':Nat→Prop} {w w':World} (g:Carry F w F' w'):∀ {cs:List Value} {l:List Bs},KyCells F w cs l→KyCells F' w' cs l
 | [],[],_=>trivial
 | [],_::_,h=>h.elim
 | _::_,[],h=>h.elim
 | _::_,_::_,⟨h1,h3⟩=>⟨h1.go g,KyCells.go g h3⟩
theorem ItCells.len {F:Nat→Prop} {w:World}:∀ {cs:List Value} {l:dS},ItCells F w cs l→cs.length=2*l.length
 | [],[],_=>rfl
 | [],_::_,h=>h.elim
 | [_],[],h=>h.elim
 | [_],_::_,h=>h.elim
 | _::_::_,[],h=>h.elim
 | _::_::_,_::_,⟨_,_,h3⟩=>by have:=h3.len;simp only [List.length_cons];omega
theorem KyCells.len {F:Nat→Prop} {w:World}:∀ {cs:List Value} {l:List Bs},KyCells F w cs l→cs.length=l.length
 | [],[],_=>rfl
 | [],_::_,h=>h.elim
 | _::_,[],h=>h.elim
 | _::_,_::_,⟨_,h3⟩=>by have:=h3.len;simp only [List.length_cons];omega
theorem ItCells.at' {F:Nat→Prop} {w:World}:∀ {cs:List Value} {l:dS} {i:Nat} {x:Bs×Bs},ItCells F w cs l→l[i]? = some x→∃ k v,cs[2*i]? = some k∧cs[2*i+1]? = some v∧BsAt F w k x.1∧BsAt F w v x.2
 | [],[],i,x,_,hx=>by simp at hx
 | [],_::_,_,_,h,_=>h.elim
 | [_],[],_,_,h,_=>h.elim
 | [_],_::_,_,_,h,_=>h.elim
 | _::_::_,[],_,_,h,_=>h.elim
 | k::v::cs,y::l,0,x,⟨h1,h2,h3⟩,hx=>by
  simp only [List.getElem?_cons_zero,Option.some.injEq] at hx
  subst hx
  exact ⟨k,v,rfl,rfl,h1,h2⟩
 | k::v::cs,y::l,i+1,x,⟨h1,h2,h3⟩,hx=>by
  obtain ⟨k',v',q1,q2,q3⟩:=ItCells.at' h3 (by simpa using hx)
  exact ⟨k',v',by simpa [Nat.mul_add] using q1,by simpa [Nat.mul_add] using q2,q3⟩
theorem KyCells.at' {F:Nat→Prop} {w:World}:∀ {cs:List Value} {l:List Bs} {i:Nat} {x:Bs},KyCells F w cs l→l[i]? = some x→∃ k,cs[i]? = some k∧BsAt F w k x
 | [],[],i,x,_,hx=>by simp at hx
 | [],_::_,_,_,h,_=>h.elim
 | _::_,[],_,_,h,_=>h.elim
 | k::cs,y::l,0,x,⟨h1,h3⟩,hx=>by
  simp only [List.getElem?_cons_zero,Option.some.injEq] at hx
  subst hx
  exact ⟨k,rfl,h1⟩
 | k::cs,y::l,i+1,x,⟨h1,h3⟩,hx=>by
  obtain ⟨k',q1,q3⟩:=KyCells.at' h3 (by simpa using hx)
  exact ⟨k',by simpa using q1,q3⟩
theorem ItCells.append {F:Nat→Prop} {w:World}:∀ {cs ds:List Value} {l m:dS},ItCells F w cs l→ItCells F w ds m→ItCells F w (cs++ds) (l++m)
 | [],_,[],_,_,h=>h
 | [],_,_::_,_,h,_=>h.elim
 | [_],_,[],_,h,_=>h.elim
 | [_],_,_::_,_,h,_=>h.elim
 | _::_::_,_,[],_,h,_=>h.elim
 | _::_::_,_,_::_,_,⟨h1,h2,h3⟩,h=>⟨h1,h2,ItCells.append h3 h⟩
theorem KyCells.append {F:Nat→Prop} {w:World}:∀ {cs ds:List Value} {l m:List Bs},KyCells F w cs l→KyCells F w ds m→KyCells F w (cs++ds) (l++m)
 | [],_,[],_,_,h=>h
 | [],_,_::_,_,h,_=>h.elim
 | _::_,_,[],_,h,_=>h.elim
 | _::_,_,_::_,_,⟨h1,h3⟩,h=>⟨h1,KyCells.append h3 h⟩
theorem ItCells.take {F:Nat→Prop} {w:World}:∀ {cs:List Value} {l:dS} (i:Nat),ItCells F w cs l→ItCells F w (cs.take (2*i)) (l.take i)∧ItCells F w (cs.drop (2*i)) (l.drop i)
 | cs,l,0,h=>by simpa [ItCells] using h
 | [],[],i+1,_=>⟨by simp [ItCells],by simp [ItCells]⟩
 | [],_::_,_+1,h=>h.elim
 | [_],[],_+1,h=>h.elim
 | [_],_::_,_+1,h=>h.elim
 | _::_::_,[],_+1,h=>h.elim
 | k::v::cs,y::l,i+1,⟨h1,h2,h3⟩=>by
  obtain ⟨q1,q2⟩:=ItCells.take i h3
  rw [show 2*(i+1)=2*i+1+1 by omega]
  exact ⟨⟨h1,h2,q1⟩,q2⟩
theorem KyCells.take {F:Nat→Prop} {w:World}:∀ {cs:List Value} {l:List Bs} (i:Nat),KyCells F w cs l→KyCells F w (cs.take i) (l.take i)∧KyCells F w (cs.drop i) (l.drop i)
 | cs,l,0,h=>by simpa [KyCells] using h
 | [],[],i+1,_=>⟨by simp [KyCells],by simp [KyCells]⟩
 | [],_::_,_+1,h=>h.elim
 | _::_,[],_+1,h=>h.elim
 | k::cs,y::l,i+1,⟨h1,h3⟩=>by
  obtain ⟨q1,q2⟩:=KyCells.take i h3
  exact ⟨⟨h1,q1⟩,q2⟩
theorem BsAt.one {F:Nat→Prop} {w:World} {v:Value} {b:Bs} (h:BsAt F w v b):v.oneCell'=true:=by
 obtain ⟨a,n,c,rfl,_⟩:=h;rfl
theorem ItCells.one {F:Nat→Prop} {w:World}:∀ {cs:List Value} {l:dS},ItCells F w cs l→∀ u∈cs,u.oneCell'=true
 | [],[],_,u,hu=>by cases hu
 | [],_::_,h,_,_=>h.elim
 | [_],[],h,_,_=>h.elim
 | [_],_::_,h,_,_=>h.elim
 | _::_::_,[],h,_,_=>h.elim
 | k::v::cs,y::l,⟨h1,h2,h3⟩,u,hu=>by
  rcases List.mem_cons.1 hu with rfl|hu
  ·exact h1.one
  ·rcases List.mem_cons.1 hu with rfl|hu
   ·exact h2.one
   ·exact h3.one u hu
theorem KyCells.one {F:Nat→Prop} {w:World}:∀ {cs:List Value} {l:List Bs},KyCells F w cs l→∀ u∈cs,u.oneCell'=true
 | [],[],_,u,hu=>by cases hu
 | [],_::_,h,_,_=>h.elim
 | _::_,[],h,_,_=>h.elim
 | k::cs,y::l,⟨h1,h3⟩,u,hu=>by
  rcases List.mem_cons.1 hu with rfl|hu
  ·exact h1.one
  ·exact h3.one u hu
theorem ints_one (l:List Nat):∀ u∈cB l,u.oneCell'=true:=by
 intro u hu;simp [cB] at hu;obtain ⟨x,_,rfl⟩:=hu;rfl
theorem BsAt.sl {F:Nat→Prop} {w:World} {v:Value} {b:Bs} (h:BsAt F w v b):∃ a c,v=.slice a b.length c∧Sl F w 1 a b.length c (cX b):=by
 obtain ⟨a,n,c,rfl,h⟩:=h
 have hl:=h.len
 rw [dA,Nat.mul_one] at hl
 subst hl
 exact ⟨a,c,rfl,h⟩
structure NV where
 a1:Option Addr
 n1:Nat
 c1:Nat
 a2:Option Addr
 n2:Nat
 c2:Nat
 a3:Option Addr
 n3:Nat
 c3:Nat
abbrev NV.v1 (x:NV):Value:=.slice x.a1 x.n1 x.c1
abbrev NV.v2 (x:NV):Value:=.slice x.a2 x.n2 x.c2
abbrev NV.v3 (x:NV):Value:=.slice x.a3 x.n3 x.c3
abbrev NV.cs (x:NV):List Value:=[.slice x.a1 x.n1 x.c1,.slice x.a2 x.n2 x.c2,.slice x.a3 x.n3 x.c3]
abbrev NV.val (x:NV):Value:=.agg #[.slice x.a1 x.n1 x.c1,.slice x.a2 x.n2 x.c2,.slice x.a3 x.n3 x.c3]
structure ItsAt (F:Nat→Prop) (w:World) (a:Option Addr) (n c:Nat) (l:dS):Prop where
 ex:∃ cs,Sl F w 2 a n c cs∧ItCells F w cs l
structure KysAt (F:Nat→Prop) (w:World) (a:Option Addr) (n c:Nat) (l:List Bs):Prop where
 ex:∃ cs,Sl F w 1 a n c cs∧KyCells F w cs l
theorem ItsAt.len {F:Nat→Prop} {w:World} {a:Option Addr} {n c:Nat} {l:dS} (h:ItsAt F w a n c l):n=l.length:=by
 obtain ⟨cs,h1,h2⟩:=h.ex
 have:=h1.len
 have:=h2.len
 omega
theorem KysAt.len {F:Nat→Prop} {w:World} {a:Option Addr} {n c:Nat} {l:List Bs} (h:KysAt F w a n c l):n=l.length:=by
 obtain ⟨cs,h1,h2⟩:=h.ex
 have:=h1.len
 have:=h2.len
 omega
theorem dX {F:Nat→Prop} {w:World} {a:Option Addr} {n c:Nat} {l:List Nat} (h:Sl F w 1 a n c (cB l)):n=l.length:=by
 have:=h.len
 rw [jJ] at this
 omega
theorem iE {F:Nat→Prop} {w:World} {a:Option Addr} {n c:Nat} {l:Bs} (h:Sl F w 1 a n c (cX l)):n=l.length:=by
 have:=h.len
 rw [dA] at this
 omega
theorem ItsAt.go {F F':Nat→Prop} {w w':World} {a:Option Addr} {n c:Nat} {l:dS} (h:ItsAt F w a n c l) (g:Carry F w F' w'):ItsAt F' w' a n c l:=by
 obtain ⟨cs,h1,h2⟩:=h.ex
 exact ⟨cs,h1.go g,h2.go g⟩
theorem KysAt.go {F F':Nat→Prop} {w w':World} {a:Option Addr} {n c:Nat} {l:List Bs} (h:KysAt F w a n c l) (g:Carry F w F' w'):KysAt F' w' a n c l:=by
 obtain ⟨cs,h1,h2⟩:=h.ex
 exact ⟨cs,h1.go g,h2.go g⟩
structure NdAt (F:Nat→Prop) (w:World) (x:NV) (nd:Nd):Prop where
 its:ItsAt F w x.a1 x.n1 x.c1 nd.items
 kids:Sl F w 1 x.a2 x.n2 x.c2 (cB nd.kids)
 kys:KysAt F w x.a3 x.n3 x.c3 nd.keys
theorem NdAt.go {F F':Nat→Prop} {w w':World} {x:NV} {nd:Nd} (h:NdAt F w x nd) (g:Carry F w F' w'):NdAt F' w' x nd:=⟨h.its.go g,h.kids.go g,h.kys.go g⟩
instance:ConcTy Tryz.prog 269:=⟨by kernel_rfl⟩
instance:ConcTy Tryz.prog 271:=⟨by kernel_rfl⟩
instance:MethTy Tryz.prog 269 "headwater/leaf.whole" 291:=⟨by kernel_rfl⟩
instance:MethTy Tryz.prog 271 "headwater/leaf.whole" 292:=⟨by kernel_rfl⟩
end Go.Proofs.YtfpadnmdafiddaaGreatDoor
namespace Go.Proofs.YtfpadnmdafiddaaGreatDoor
open Go Go.RowKit Go.V
theorem clamp_c (m:Nat) (h1:1≤m) (h8:m≤8) (w:World):Calls Tryz.prog 214 #[.int .i64 (m:Int)] w (Ret λ v w'=>v=.int .i64 (m:Int)∧w=w'):=by
 refine V.calls (args:=[_]) Tryz.func214 rfl Tryz.ntmps214 rfl rfl ?_
 repeat (first|(refine aB ?_;refine TL.pure rfl rfl ?_)|(refine aD ?_;refine TL.pure rfl rfl ?_)|refine TL.nil ?_|refine aA ?_|refine aJ ?_|refine aC ?_|refine TL.min2 rfl rfl rfl ?_)
 repeat (first|(refine aD ?_;refine TL.pure rfl rfl ?_)|refine TL.nil ?_|refine aA ?_|refine bC ?_|(refine lG ?_;refine TL.maxV (r:=(m:Int)) rfl rfl (by split<;>omega) rfl ?_))
 exact cF rfl ⟨_,rfl,rfl,rfl⟩
def byteAt (n i:Nat):Nat:=n / 2^(8*i)%256
theorem word4_eq (n:Nat):fQ n=(List.range 4).map (byteAt n):=by
 simp [fQ,byteAt,List.range_succ]
theorem word_c (n:Nat) (hn:n<18446744073709551616) (w:World) :
  Calls Tryz.prog 170 #[.slice none 0 0,.int .u64 (n:Int),.int .i64 4] w (Ret λ v w'=>w'.ownsRow w.heap.size 5 1 v 4 (cX (fQ n))∧Grow w w'):=by
 refine V.calls (args:=[_,_,_]) Tryz.func170 rfl Tryz.ntmps170 rfl rfl ?_
 repeat (first|(refine aB ?_;refine TL.pure rfl rfl ?_)|(refine aD ?_;refine TL.pure rfl rfl ?_)|refine TL.nil ?_|refine aA ?_|refine aJ ?_|refine aC ?_)
 refine aI rfl (clamp_c 4 (by omega) (by omega) _) rfl ?_
 rintro _ _ ⟨rfl,rfl⟩
 repeat (first|(refine aB ?_;refine TL.pure rfl rfl ?_)|(refine aD ?_;refine TL.pure rfl rfl ?_)|refine TL.nil ?_|refine aA ?_|refine aJ ?_|refine aC ?_)
 refine aI rfl (grown_c (λ _=>True) none 0 0 4 [] _ (Sl.nil_mk _ _ _) (by simp) (by omega)) rfl ?_
 rintro u w1 ⟨hown,hg1⟩
 repeat (first|(refine aB ?_;refine TL.pure rfl rfl ?_)|(refine aD ?_;refine TL.pure rfl rfl ?_)|refine TL.nil ?_|refine aA ?_|refine aJ ?_|refine aC ?_|refine T.block ?_)
 refine cM (S:=Value×Nat) (λ s=>[(14,.int .i64 (s.2:Int)),(13,.int .i64 ((4:Nat):Int)),(1,.int .u64 (n:Int)),(0,s.1)]) (λ s w2=>s.2≤4∧w2.ownsRow w.heap.size 5 1 s.1 s.2 (cX ((List.range s.2).map (byteAt n)))∧Grow w w2) (λ s=>4-s.2) (u,0) ⟨rfl,rfl,rfl,rfl,trivial⟩ ⟨by omega,hown,hg1⟩ ?_
 rintro ⟨v,i⟩ w2 ⟨hi,hown2,hg2⟩
 simp only at hi hown2
 have hsz2:=hg2.size
 by_cases hlt:i<4
 ·repeat (first|(refine gU ?_;refine gZ (a:=8) rfl rfl (by omega) rfl ?_)|(refine fT ?_;refine jL rfl rfl (by show 8*i≤64;omega) rfl ?_)|(refine cZ ?_;refine nD rfl (M:=256) rfl rfl ?_)|(refine aB ?_;refine TL.pure rfl rfl ?_)|(refine aD ?_;refine TL.pure rfl rfl ?_)|refine TL.nil ?_|refine aA ?_|refine aJ ?_|refine aC ?_|refine T.block ?_|(refine aH ?_;refine bA rfl yD rfl ?_)|refine aN rfl ?_|refine aV ?_)
  refine TL.buildSlice rfl rfl rfl rfl rfl ?_
  intro b w3 hg3 hb3 hs3 hs4 hs5
  have hsl:Sl (λ _=>True) w3 1 (some ⟨b,0,none⟩) 1 1 (cX [byteAt n i]):=(bR (sz:=1) (m:=1) hb3 hs5 (by decide)).mono (λ _ _=>trivial)
  have h4:=hg3.size
  refine TL.append rfl rfl (cO hown2 hg3) hsl (dY [byteAt n i]) (by unfold maxLen;omega) (by omega) (by omega) rfl ?_
  intro v' w4 hown4 hgb _
  repeat (first|(refine aB ?_;refine TL.pure rfl rfl ?_)|(refine aD ?_;refine TL.pure rfl rfl ?_)|(refine bJ ?_;refine bT rfl rfl (by omega) rfl ?_)|refine TL.nil ?_|refine aA ?_|refine aC ?_|refine aT ?_)
  refine bG (v',i+1) ⟨rfl,rfl,rfl,rfl,trivial⟩ ⟨hlt,?_,Grow.mk (cA hgb (by omega) (λ k hk=>(cY (cO hown2 hg3) hk).1) (hg2.trans hg3).1)⟩ (by simp only;omega)
  rw [List.range_succ,List.map_append,gO]
  exact hown4
 ·obtain rfl:i=4:=by omega
  repeat (first|(refine aB ?_;refine TL.pure rfl rfl ?_)|(refine aD ?_;refine TL.pure rfl rfl ?_)|refine TL.nil ?_|refine aA ?_|refine aJ ?_|refine aC ?_|(refine aH ?_;refine aR rfl yD rfl ?_)|refine aE rfl ?_|refine bC ?_|refine cN ?_|refine bM ?_|refine bO ?_|refine bN ?_)
  exact cF rfl ⟨_,rfl,by rw [word4_eq];exact hown2,hg2⟩
theorem block_c (F:Nat→Prop) (a:Option Addr) (n c:Nat) (p:Bs) (w:World) (hs:Sl F w 1 a n c (cX p)) (hn:n≤1000000) :
  Calls Tryz.prog 195 #[.slice none 0 0,.slice a n c] w (Ret λ v w'=>w'.ownsRow w.heap.size 5 1 v (jO p).length (cX (jO p))∧Grow w w'):=by
 have hl:=iE hs
 have hz:=sz_le n
 refine V.calls (args:=[_,_]) Tryz.func195 rfl Tryz.ntmps195 rfl rfl ?_
 repeat (first|(refine aL 233 ?_;refine aI rfl (size_c n (by omega) _) rfl ?_;rintro _ _ ⟨rfl,rfl⟩)|(refine aB ?_;refine TL.pure rfl rfl ?_)|(refine aD ?_;refine TL.pure rfl rfl ?_)|(refine bJ ?_;refine bT rfl rfl (by omega) rfl ?_)|refine TL.nil ?_|refine aA ?_|refine aJ ?_|refine aC ?_|(refine cZ ?_;refine eV rfl rfl (by omega) rfl ?_)|refine aO rfl rfl ?_)
 refine aI rfl (grown_c (λ _=>True) none 0 0 (sz n+n) [] _ (Sl.nil_mk _ _ _) (by simp) (by omega)) rfl ?_
 rintro u w1 ⟨hown,hg1⟩
 have h1:=hg1.size
 repeat ((refine aB ?_;refine TL.pure rfl rfl ?_))
 refine aI rfl (number_c w.heap.size u 0 n [] _ hown h1 (by omega) (by omega)) rfl ?_
 rintro u2 w2 ⟨hown2,hb2⟩
 repeat ((refine aB ?_;refine TL.pure rfl rfl ?_))
 have hg2:Grow w w2:=Grow.mk (hg1.1.trans hb2)
 refine TL.append rfl rfl hown2 (hs.grow hg2) (dY _) (by unfold maxLen;omega) (by omega) hg2.size rfl ?_
 intro v' w4 hown4 hgb _
 repeat (first|(refine aD ?_;refine TL.pure rfl rfl ?_)|refine TL.nil ?_|refine aA ?_|refine bC ?_)
 refine cF rfl ⟨_,rfl,?_,Grow.mk (cA hgb (hg2.size) (λ k hk=>(cY hown2 hk).1) hg2.1)⟩
 have e:(jO p).length=0+sz n+n:=by unfold jO;rw [List.length_append,length_encL,hl];omega
 rw [e]
 unfold jO
 rw [gO,← hl]
 exact hown4
end Go.Proofs.YtfpadnmdafiddaaGreatDoor
namespace Go.Proofs.YtfpadnmdafiddaaGreatDoor
open Go Go.RowKit Go.V
theorem key_c (a:Option Addr) (n c:Nat) (w:World) :
  Calls Tryz.prog 94 #[.slice a n c] w (Ret λ v w'=>v=.bool (decide (1≤n)&&decide (n≤16))∧w=w'):=by
 refine V.calls (args:=[_]) Tryz.func94 rfl Tryz.ntmps94 rfl rfl ?_
 by_cases h1:1≤n
 ·by_cases h2:n≤16
  ·repeat (first|(refine bA rfl (by simp only [decide_eq_true_eq];omega) rfl ?_)|refine aX rfl rfl rfl ?_|(refine aB ?_;refine TL.pure rfl rfl ?_)|(refine aD ?_;refine TL.pure rfl rfl ?_)|refine TL.nil ?_|refine aA ?_|refine aJ ?_|refine aC ?_|refine aO rfl rfl ?_|refine bC ?_|refine TL.pure rfl rfl ?_)
   exact cF rfl ⟨_,rfl,by simp [h1,h2],rfl⟩
  ·repeat (first|(refine bA rfl (by simp only [decide_eq_true_eq];omega) rfl ?_)|(refine aR rfl (by simp only [decide_eq_false_iff_not];omega) rfl ?_)|refine aX rfl rfl rfl ?_|(refine aB ?_;refine TL.pure rfl rfl ?_)|(refine aD ?_;refine TL.pure rfl rfl ?_)|refine TL.nil ?_|refine aA ?_|refine aJ ?_|refine aC ?_|refine aO rfl rfl ?_|refine bC ?_|refine TL.pure rfl rfl ?_)
   exact cF rfl ⟨_,rfl,by simp [h1,h2],rfl⟩
 ·repeat (first|(refine aR rfl (by simp only [decide_eq_false_iff_not];omega) rfl ?_)|refine bQ rfl rfl rfl ?_|(refine aB ?_;refine TL.pure rfl rfl ?_)|(refine aD ?_;refine TL.pure rfl rfl ?_)|refine TL.nil ?_|refine aA ?_|refine aJ ?_|refine aC ?_|refine aO rfl rfl ?_|refine bC ?_|refine TL.pure rfl rfl ?_)
  exact cF rfl ⟨_,rfl,by simp [h1],rfl⟩
theorem value_c (a:Option Addr) (n c:Nat) (w:World) :
  Calls Tryz.prog 148 #[.slice a n c] w (Ret λ v w'=>v=.bool (decide (n≤32))∧w=w'):=by
 refine V.calls (args:=[_]) Tryz.func148 rfl Tryz.ntmps148 rfl rfl ?_
 repeat (first|(refine aB ?_;refine TL.pure rfl rfl ?_)|(refine aD ?_;refine TL.pure rfl rfl ?_)|refine TL.nil ?_|refine aA ?_|refine aJ ?_|refine aC ?_|(refine aH ?_;refine TL.pure rfl rfl ?_)|refine aO rfl rfl ?_|refine bC ?_)
 exact cF rfl ⟨_,rfl,congrArg Value.bool (by simp only [decide_eq_decide];omega),rfl⟩
theorem key_t {F:Nat→Prop} {a:Option Addr} {n c:Nat} {k:Bs} {w:World} {b:Bool} (h:Sl F w 1 a n c (cX k)) (hb:dR k=b) :
  Calls Tryz.prog 94 #[.slice a n c] w (Ret λ v w'=>v=.bool b∧w=w'):=by
 have:=key_c a n c w
 rwa [show (decide (1≤n)&&decide (n≤16))=b by rw [← hb,iE h];rfl] at this
theorem value_t {F:Nat→Prop} {a:Option Addr} {n c:Nat} {k:Bs} {w:World} {b:Bool} (h:Sl F w 1 a n c (cX k)) (hb:gH k=b) :
  Calls Tryz.prog 148 #[.slice a n c] w (Ret λ v w'=>v=.bool b∧w=w'):=by
 have:=value_c a n c w
 rwa [show decide (n≤32)=b by rw [← hb,iE h];rfl] at this
theorem leaf_c (x:NV) (w:World) :
  Calls Tryz.prog 80 #[x.val] w (Ret λ v w'=>v=.bool (decide (x.n2=0))∧Grow w w'):=by
 refine V.calls (args:=[_]) Tryz.func80 rfl Tryz.ntmps80 rfl rfl ?_
 repeat (first|(refine aD ?_;refine TL.pure rfl rfl ?_)|refine aK rfl yM rfl ?_|refine aF rfl rfl ?_|refine TL.nil ?_|refine aA ?_|refine aJ ?_|refine aC ?_|(refine aH ?_;refine TL.pure rfl rfl ?_)|(refine bW ?_;(refine TL.box rfl rfl rfl ?_;intro bk w' hg hbk hsz hsz'))|refine aO rfl rfl ?_|refine bC ?_)
 exact cF rfl ⟨_,rfl,congrArg Value.bool (by rw [Bool.eq_iff_iff];simp),yG⟩
theorem nan8_c (a:Nat) (w:World):Calls Tryz.prog 228 #[.int .u8 (a:Int)] w (Ret λ v w'=>v=.bool false∧w=w'):=by
 refine V.calls (args:=[_]) Tryz.func228 rfl Tryz.ntmps228 rfl rfl ?_
 repeat (first|(refine aB ?_;refine TL.pure rfl rfl ?_)|(refine aD ?_;refine TL.pure rfl rfl ?_)|refine TL.nil ?_|refine aA ?_|refine aJ ?_|refine aC ?_|(refine aH ?_;refine TL.pure rfl rfl ?_)|refine bC ?_)
 exact cF rfl ⟨_,rfl,by simp,rfl⟩
theorem nan64_c (a:Nat) (w:World):Calls Tryz.prog 229 #[.int .i64 (a:Int)] w (Ret λ v w'=>v=.bool false∧w=w'):=by
 refine V.calls (args:=[_]) Tryz.func229 rfl Tryz.ntmps229 rfl rfl ?_
 repeat (first|(refine aB ?_;refine TL.pure rfl rfl ?_)|(refine aD ?_;refine TL.pure rfl rfl ?_)|refine TL.nil ?_|refine aA ?_|refine aJ ?_|refine aC ?_|(refine aH ?_;refine TL.pure rfl rfl ?_)|refine bC ?_)
 exact cF rfl ⟨_,rfl,by simp,rfl⟩
def cmpN (a b:Nat):Int:=if a<b then -1 else if b<a then 1 else 0
theorem cmp8_c (a b:Nat) (w:World):Calls Tryz.prog 182 #[.int .u8 (a:Int),.int .u8 (b:Int)] w (Ret λ v w'=>v=.int .i64 (cmpN a b)∧w=w'):=by
 refine V.calls (args:=[_,_]) Tryz.func182 rfl Tryz.ntmps182 rfl rfl ?_
 unfold cmpN
 by_cases h1:a<b
 ·repeat (first|(refine aL 228 ?_;refine aI rfl (nan8_c _ _) rfl ?_;rintro _ _ ⟨rfl,rfl⟩)|(refine aB ?_;refine TL.pure rfl rfl ?_)|(refine aD ?_;refine TL.pure rfl rfl ?_)|refine TL.nil ?_|refine aA ?_|refine aJ ?_|refine aC ?_|(refine aH ?_;refine TL.pure rfl rfl ?_)|refine aE rfl ?_|refine eT rfl yD ?_|refine bC ?_|refine aV ?_|refine bI ?_)
  exact cF rfl ⟨_,rfl,by rw [if_pos h1],rfl⟩
 ·by_cases h2:b<a
  ·repeat (first|(refine aL 228 ?_;refine aI rfl (nan8_c _ _) rfl ?_;rintro _ _ ⟨rfl,rfl⟩)|(refine aB ?_;refine TL.pure rfl rfl ?_)|(refine aD ?_;refine TL.pure rfl rfl ?_)|refine TL.nil ?_|refine aA ?_|refine aJ ?_|refine aC ?_|(refine aH ?_;refine TL.pure rfl rfl ?_)|refine aE rfl ?_|refine eT rfl yD ?_|refine eG rfl yD ?_|refine bC ?_|refine aV ?_|refine bI ?_)
   exact cF rfl ⟨_,rfl,by rw [if_neg h1,if_pos h2],rfl⟩
  ·repeat (first|(refine aL 228 ?_;refine aI rfl (nan8_c _ _) rfl ?_;rintro _ _ ⟨rfl,rfl⟩)|(refine aB ?_;refine TL.pure rfl rfl ?_)|(refine aD ?_;refine TL.pure rfl rfl ?_)|refine TL.nil ?_|refine aA ?_|refine aJ ?_|refine aC ?_|(refine aH ?_;refine TL.pure rfl rfl ?_)|refine aE rfl ?_|refine eG rfl yD ?_|refine bC ?_|refine aV ?_)
   exact cF rfl ⟨_,rfl,by rw [if_neg h1,if_neg h2],rfl⟩
theorem cmp64_c (a b:Nat) (w:World):Calls Tryz.prog 183 #[.int .i64 (a:Int),.int .i64 (b:Int)] w (Ret λ v w'=>v=.int .i64 (cmpN a b)∧w=w'):=by
 refine V.calls (args:=[_,_]) Tryz.func183 rfl Tryz.ntmps183 rfl rfl ?_
 unfold cmpN
 by_cases h1:a<b
 ·repeat (first|(refine aL 229 ?_;refine aI rfl (nan64_c _ _) rfl ?_;rintro _ _ ⟨rfl,rfl⟩)|(refine aB ?_;refine TL.pure rfl rfl ?_)|(refine aD ?_;refine TL.pure rfl rfl ?_)|refine TL.nil ?_|refine aA ?_|refine aJ ?_|refine aC ?_|(refine aH ?_;refine TL.pure rfl rfl ?_)|refine aE rfl ?_|refine eT rfl yD ?_|refine bC ?_|refine aV ?_|refine bI ?_)
  exact cF rfl ⟨_,rfl,by rw [if_pos h1],rfl⟩
 ·by_cases h2:b<a
  ·repeat (first|(refine aL 229 ?_;refine aI rfl (nan64_c _ _) rfl ?_;rintro _ _ ⟨rfl,rfl⟩)|(refine aB ?_;refine TL.pure rfl rfl ?_)|(refine aD ?_;refine TL.pure rfl rfl ?_)|refine TL.nil ?_|refine aA ?_|refine aJ ?_|refine aC ?_|(refine aH ?_;refine TL.pure rfl rfl ?_)|refine aE rfl ?_|refine eT rfl yD ?_|refine eG rfl yD ?_|refine bC ?_|refine aV ?_|refine bI ?_)
   exact cF rfl ⟨_,rfl,by rw [if_neg h1,if_pos h2],rfl⟩
  ·repeat (first|(refine aL 229 ?_;refine aI rfl (nan64_c _ _) rfl ?_;rintro _ _ ⟨rfl,rfl⟩)|(refine aB ?_;refine TL.pure rfl rfl ?_)|(refine aD ?_;refine TL.pure rfl rfl ?_)|refine TL.nil ?_|refine aA ?_|refine aJ ?_|refine aC ?_|(refine aH ?_;refine TL.pure rfl rfl ?_)|refine aE rfl ?_|refine eG rfl yD ?_|refine bC ?_|refine aV ?_)
   exact cF rfl ⟨_,rfl,by rw [if_neg h1,if_neg h2],rfl⟩
end Go.Proofs.YtfpadnmdafiddaaGreatDoor
namespace Go.Proofs.YtfpadnmdafiddaaGreatDoor
open Go Go.RowKit Go.V
theorem bys_at {l:Bs} {i x:Nat} (h:l[i]? = some x):(cX l)[i]? = some (.int .u8 (x:Int)):=by simp [cX,h]
theorem cmpB_step {x y:Bs} {i a b:Nat} (hx:x[i]? = some a) (hy:y[i]? = some b):dU (x.drop i) (y.drop i)=if a<b then -1 else if b<a then 1 else dU (x.drop (i+1)) (y.drop (i+1)):=by
 obtain ⟨h1,rfl⟩:=List.getElem?_eq_some_iff.1 hx
 obtain ⟨h2,rfl⟩:=List.getElem?_eq_some_iff.1 hy
 rw [List.drop_eq_getElem_cons h1,List.drop_eq_getElem_cons h2,dU]
theorem cmpB_end {x y:Bs} {i:Nat} (h:i=min x.length y.length):dU (x.drop i) (y.drop i)=cmpN x.length y.length:=by
 subst h
 unfold cmpN
 by_cases h1:x.length<y.length
 ·rw [if_pos h1,Nat.min_eq_left (by omega),List.drop_length]
  cases hd:y.drop x.length with
  | nil=>rw [List.drop_eq_nil_iff] at hd;omega
  | cons _ _=>rfl
 ·rw [if_neg h1,Nat.min_eq_right (by omega),List.drop_length]
  by_cases h2:y.length<x.length
  ·rw [if_pos h2]
   cases hd:x.drop y.length with
   | nil=>rw [List.drop_eq_nil_iff] at hd;omega
   | cons _ _=>rfl
  ·rw [if_neg h2,List.drop_eq_nil_of_le (by omega)]
   rfl
theorem gE (F G:Nat→Prop) (a:Option Addr) (n c:Nat) (b:Option Addr) (m d:Nat) (x y:Bs) (w:World) (hx:Sl F w 1 a n c (cX x)) (hy:Sl G w 1 b m d (cX y)) :
  Calls Tryz.prog 139 #[.slice a n c,.slice b m d] w (Ret λ v w'=>v=.int .i64 (dU x y)∧Grow w w'):=by
 refine V.calls (args:=[_,_]) Tryz.func139 rfl Tryz.ntmps139 rfl rfl ?_
 have hn:=hx.le
 have hm:=hy.le
 have ln:=iE hx
 have lm:=iE hy
 repeat (first|(refine aB ?_;refine TL.pure rfl rfl ?_)|(refine aD ?_;refine TL.pure rfl rfl ?_)|refine TL.nil ?_|refine aA ?_|refine aJ ?_|refine aC ?_|refine T.block ?_|(refine lG ?_;first|refine aO rfl rfl ?_|refine TL.min2 rfl rfl rfl ?_))
 rw [show (if (m:Int)<(n:Int) then (m:Int) else (n:Int))=((min n m:Nat):Int) by split<;>omega]
 refine cM (S:=Nat) (λ i=>[(12,.int .i64 (i:Int)),(11,.int .i64 ((min n m:Nat):Int)),(0,.slice a n c),(1,.slice b m d)]) (λ i w'=>Grow w w'∧i≤min n m∧dU x y=dU (x.drop i) (y.drop i)) (λ i=>min n m-i) 0 ⟨rfl,rfl,rfl,rfl,trivial⟩ ⟨Grow.refl w,by omega,rfl⟩ ?_
 rintro i w1 ⟨hg1,hi,hc⟩
 by_cases hlt:i<min n m
 ·obtain ⟨p,hp⟩:∃ p,x[i]? = some p:=⟨_,List.getElem?_eq_getElem (by omega)⟩
  obtain ⟨q,hq⟩:∃ q,y[i]? = some q:=⟨_,List.getElem?_eq_getElem (by omega)⟩
  have hcx:w1.cell? (at' a i)=some (.int .u8 (p:Int)):=(hx.grow hg1).row.cell (bys_at hp)
  have hcy:w1.cell? (at' b i)=some (.int .u8 (q:Int)):=(hy.grow hg1).row.cell (bys_at hq)
  have hst:=cmpB_step hp hq
  have hin:i<n:=by omega
  have him:i<m:=by omega
  repeat (first|(refine aB ?_;refine TL.pure rfl rfl ?_)|(refine aD ?_;refine TL.pure rfl rfl ?_)|refine TL.nil ?_|refine aA ?_|refine aJ ?_|refine aC ?_|refine T.block ?_|(refine aH ?_;refine bA rfl yD rfl ?_)|refine aN rfl ?_|refine aV ?_)
  apply T.any 10 [is _,is _,is _,is _,is _,is _,is _,is _,is _,is _];(· kernel_rfl);(· ((repeat' (first|exact bX|refine bU ?_ ?_));(iterate 10 (· ((refine aQ rfl rfl rfl ?_);( intro wq _ _ hgq;(repeat (refine aG rfl rfl ?_;intro vq hvq;try (obtain rfl:=hvq)));(refine aM ?_));(repeat (first|(refine aB ?_;refine TL.pure rfl rfl ?_)|(refine aD ?_;refine TL.pure rfl rfl ?_)|refine aK rfl yM rfl ?_|refine TL.nil ?_|(refine bF ?_;first|refine aW rfl rfl rfl hin (Nat.mul_one _) ⟨F,_,hx.grow (hg1.trans (by assumption))⟩ rfl ?_|refine aW rfl rfl rfl him (Nat.mul_one _) ⟨G,_,hy.grow (hg1.trans (by assumption))⟩ rfl ?_)|(refine aL 182 ?_;refine aI rfl (cmp8_c _ _ _) rfl ?_;rintro _ _ ⟨rfl,rfl⟩)));exact aS rfl yG rfl)))));(rintro _ _ _ hgr _ _;(repeat (refine aG rfl rfl ?_;intro vq hvq;try (obtain rfl:=hvq)));(refine aM ?_))
  by_cases h1:p<q
  ·have hv:cmpN p q = -1:=if_pos h1
   rw [if_pos h1] at hst
   repeat (first|(refine aB ?_;refine TL.pure rfl rfl ?_)|(refine aD ?_;refine TL.pure rfl rfl ?_)|refine TL.nil ?_|refine aA ?_|refine aJ ?_|refine aC ?_|(refine aH ?_;refine bA rfl yD rfl ?_)|refine aN rfl ?_|refine bC ?_|refine bI ?_|refine dB ?_|refine dW ?_)
   exact cF rfl ⟨_,rfl,congrArg (Value.int .i64) (by omega),yG⟩
  ·rw [if_neg h1] at hst
   by_cases h2:q<p
   ·have hv:cmpN p q=1:=by unfold cmpN;rw [if_neg h1,if_pos h2]
    rw [if_pos h2] at hst
    repeat (first|(refine aB ?_;refine TL.pure rfl rfl ?_)|(refine aD ?_;refine TL.pure rfl rfl ?_)|refine TL.nil ?_|refine aA ?_|refine aJ ?_|refine aC ?_|(refine aH ?_;refine bA rfl yD rfl ?_)|refine aN rfl ?_|refine bC ?_|refine bI ?_|refine dB ?_|refine dW ?_)
    exact cF rfl ⟨_,rfl,congrArg (Value.int .i64) (by omega),yG⟩
   ·have hv:cmpN p q=0:=by unfold cmpN;rw [if_neg h1,if_neg h2]
    rw [if_neg h2] at hst
    repeat (first|(refine aB ?_;refine TL.pure rfl rfl ?_)|(refine bJ ?_;refine bT rfl rfl (by omega) rfl ?_)|refine TL.nil ?_|refine aA ?_|refine aJ ?_|refine aC ?_|refine aT ?_|(refine aH ?_;refine aR rfl yD rfl ?_)|refine aE rfl ?_|refine aV ?_)
    exact bG (i+1) ⟨rfl,rfl,rfl,rfl,trivial⟩ ⟨yG,by omega,by omega⟩ (by omega)
 ·have he:=cmpB_end (x:=x) (y:=y) (i:=i) (by omega)
  repeat (first|(refine aL 183 ?_;refine aI rfl (cmp64_c _ _ _) rfl ?_;rintro _ _ ⟨rfl,rfl⟩)|(refine aB ?_;refine TL.pure rfl rfl ?_)|(refine aD ?_;refine TL.pure rfl rfl ?_)|refine TL.nil ?_|refine aA ?_|refine aJ ?_|refine aC ?_|(refine aH ?_;refine aR rfl yD rfl ?_)|refine aO rfl rfl ?_|refine aE rfl ?_|refine bC ?_|refine cN ?_|refine bM ?_|refine bO ?_|refine bN ?_)
  exact cF rfl ⟨_,rfl,congrArg (Value.int .i64) (by rw [hc,he,ln,lm]),yG⟩
end Go.Proofs.YtfpadnmdafiddaaGreatDoor
namespace Go.Proofs.YtfpadnmdafiddaaGreatDoor
open Go Go.RowKit Go.V
theorem shape_leaf (x:NV) (w:World) (h:x.n2=0) :
  Calls Tryz.prog 189 #[x.val] w (Ret λ v w'=>v=.iface 269 (.agg #[.slice x.a1 x.n1 x.c1,.slice x.a3 x.n3 x.c3])∧Grow w w'):=by
 refine V.calls (args:=[_]) Tryz.func189 rfl Tryz.ntmps189 rfl rfl ?_
 repeat (first|(refine TL.isMkIf ?_;refine TL.makeIface rfl rfl ?_)|(refine aD ?_;refine TL.pure rfl rfl ?_)|refine aK rfl yM rfl ?_|refine aF rfl rfl ?_|refine TL.nil ?_|refine aA ?_|refine aJ ?_|refine aC ?_|(refine aH ?_;refine TL.pure rfl rfl ?_)|(refine bW ?_;(refine TL.box rfl rfl rfl ?_;intro bk w' hg hbk hsz hsz'))|refine TL.build rfl rfl rfl ?_|refine aO rfl rfl ?_|refine eT rfl yD ?_|refine bC ?_|refine bI ?_)
 exact cF rfl ⟨_,rfl,rfl,yG⟩
theorem kR (x:NV) (w:World) (h:x.n2≠0) :
  Calls Tryz.prog 189 #[x.val] w (Ret λ v w'=>v=.iface 271 x.val∧Grow w w'):=by
 refine V.calls (args:=[_]) Tryz.func189 rfl Tryz.ntmps189 rfl rfl ?_
 repeat (first|(refine TL.isMkIf ?_;refine TL.makeIface rfl rfl ?_)|(refine aD ?_;refine TL.pure rfl rfl ?_)|refine aK rfl yM rfl ?_|refine aF rfl rfl ?_|refine TL.nil ?_|refine aA ?_|refine aJ ?_|refine aC ?_|(refine aH ?_;refine TL.pure rfl rfl ?_)|(refine bW ?_;(refine TL.box rfl rfl rfl ?_;intro bk w' hg hbk hsz hsz'))|refine TL.build rfl rfl rfl ?_|refine aO rfl rfl ?_|refine eG rfl yD ?_|refine bC ?_|refine aV ?_)
 exact cF rfl ⟨_,rfl,rfl,yG⟩
theorem ItsAt.at' {F:Nat→Prop} {w:World} {a:Option Addr} {n c:Nat} {l:dS} (h:ItsAt F w a n c l):∃ cs,Sl F w 2 a n c cs∧∀ (i:Nat) (x:Bs×Bs),l[i]? = some x→∃ ka kc va vc,cs[i*2]? = some (.slice ka x.1.length kc)∧cs[i*2+1]? = some (.slice va x.2.length vc) ∧
  Sl F w 1 ka x.1.length kc (cX x.1)∧Sl F w 1 va x.2.length vc (cX x.2):=by
 obtain ⟨cs,h1,h2⟩:=h.ex
 refine ⟨cs,h1,λ i x hx=>?_⟩
 obtain ⟨k,v,g1,g2,g3,g4⟩:=h2.at' hx
 obtain ⟨ka,kc,rfl,s1⟩:=g3.sl
 obtain ⟨va,vc,rfl,s2⟩:=g4.sl
 rw [Nat.mul_comm] at g1 g2
 exact ⟨ka,kc,va,vc,g1,g2,s1,s2⟩
theorem wholeL_c (F:Nat→Prop) (a1:Option Addr) (n1 c1:Nat) (a3:Option Addr) (n3 c3:Nat) (l:dS) (w:World) (h:ItsAt F w a1 n1 c1 l) :
  Calls Tryz.prog 291 #[.agg #[.slice a1 n1 c1,.slice a3 n3 c3]] w (Ret λ v w'=>v=.bool (decide (n3=0)&&decide (n1≤8)&&gF (iB l) n1)∧Grow w w'):=by
 refine V.calls (args:=[_]) Tryz.func291 rfl Tryz.ntmps291 rfl rfl ?_
 have hn:=h.len
 by_cases h3:n3=0
 rotate_left
 ·repeat (first|refine bQ rfl rfl rfl ?_|(refine aB ?_;refine TL.pure rfl rfl ?_)|(refine aD ?_;refine TL.pure rfl rfl ?_)|refine aK rfl yM rfl ?_|refine aF rfl rfl ?_|refine TL.nil ?_|refine aA ?_|refine aJ ?_|refine aC ?_|(refine aH ?_;refine bA rfl yD rfl ?_)|(refine bW ?_;(refine dJ rfl rfl ?_;intro bk w' hg hbk hsz hsz'))|refine aO rfl rfl ?_|refine aN rfl ?_|refine bC ?_|refine bI ?_|refine TL.pure rfl rfl ?_)
  exact cF rfl ⟨_,rfl,by simp [h3],yG⟩
 by_cases h8:n1≤8
 rotate_left
 ·repeat (first|refine aX rfl rfl rfl ?_|(refine aB ?_;refine TL.pure rfl rfl ?_)|(refine aD ?_;refine TL.pure rfl rfl ?_)|refine aK rfl yM rfl ?_|refine aF rfl rfl ?_|refine TL.nil ?_|refine aA ?_|refine aJ ?_|refine aC ?_|(refine aH ?_;first|refine bA rfl yD rfl ?_|refine aR rfl yD rfl ?_)|(refine bW ?_;(refine dJ rfl rfl ?_;intro bk w' hg hbk hsz hsz'))|refine aO rfl rfl ?_|refine aN rfl ?_|refine bC ?_|refine bI ?_|refine TL.pure rfl rfl ?_)
  exact cF rfl ⟨_,rfl,by simp [h8],yG⟩
 obtain ⟨cs,hs,hcell⟩:=h.at'
 repeat (first|refine aX rfl rfl rfl ?_|(refine aB ?_;refine TL.pure rfl rfl ?_)|(refine aD ?_;refine TL.pure rfl rfl ?_)|refine aK rfl yM rfl ?_|refine aF rfl rfl ?_|refine TL.nil ?_|refine aA ?_|refine aJ ?_|refine aC ?_|refine T.block ?_|(refine aH ?_;refine aR rfl yD rfl ?_)|(refine bW ?_;(refine dJ rfl rfl ?_;intro bk w' hg hbk hsz hsz'))|refine aO rfl rfl ?_|refine aE rfl ?_|refine aV ?_|refine TL.pure rfl rfl ?_)
 refine cM (S:=Nat) (λ i=>[(18,.int .i64 (i:Int)),(17,.int .i64 (n1:Int)),(16,.slice a1 n1 c1),(1,.pointer (some ⟨bk,0,none⟩))]) (λ i w1=>Blk w1 bk 269 [.slice a1 n1 c1,.slice a3 n3 c3]∧Grow w w1∧i≤n1∧∀ j,j<i→iB l j=true) (λ i=>n1-i) 0 ⟨rfl,rfl,rfl,rfl,trivial⟩ ⟨hbk,hg,by omega,λ j hj=>by omega⟩ ?_
 clear hbk hg
 rintro i w1 ⟨hbk,hg1,hi,hall⟩
 have hblt:=hbk.lt
 by_cases hlt:i<n1
 rotate_left
 ·repeat (first|(refine aD ?_;refine TL.pure rfl rfl ?_)|refine TL.nil ?_|refine aA ?_|refine aJ ?_|refine aC ?_|(refine aH ?_;refine aR rfl yD rfl ?_)|refine aE rfl ?_|refine bC ?_|refine cN ?_|refine bM ?_|refine bO ?_|refine bN ?_)
  exact cF rfl ⟨_,rfl,by rw [nB λ j hj=>hall j (by omega)];simp [h3,h8],yG⟩
 obtain ⟨x,hx⟩:∃ x,l[i]? = some x:=⟨_,List.getElem?_eq_getElem (by omega)⟩
 obtain ⟨ka,kc,va,vc,g1,g2,s1,s2⟩:=hcell i x hx
 have hs1:=hs.grow hg1
 have hno:iB l i=false→gF (iB l) n1=false:=λ h0=>by
  cases hb:gF (iB l) n1 with
  | false=>rfl
  | true=>have:=nC hb hlt;rw [h0] at this;cases this
 cases hko:dR x.1 with
 | false =>
  repeat (first|refine aW rfl rfl rfl hlt rfl ⟨F,_,hs1⟩ rfl ?_|(refine aU ?_;refine eP rfl hs1 (two_at g1 g2) rfl rfl ?_)|(refine aL 94 ?_;refine aI rfl (key_t (s1.grow yG) hko) rfl ?_;rintro _ _ ⟨rfl,rfl⟩)|refine bQ rfl rfl rfl ?_|(refine aB ?_;refine TL.pure rfl rfl ?_)|(refine aD ?_;refine TL.pure rfl rfl ?_)|refine aK rfl yM rfl ?_|refine aF rfl rfl ?_|refine TL.nil ?_|refine aA ?_|refine aJ ?_|refine aC ?_|refine T.block ?_|(refine aH ?_;refine bA rfl yD rfl ?_)|(refine aP ?_;(refine aY rfl rfl yB (by exact rfl) (by exact rfl) (by exact rfl) ?_;intro w' hu hbk hsz))|(refine bD ?_;(refine TL.alloc rfl rfl ?_;intro bk w' hg hbk hsz hsz'))|refine aN rfl ?_|refine bC ?_|refine aV ?_|refine bI ?_|refine dB ?_|refine dW ?_|refine TL.pure rfl rfl ?_)
  exact cF rfl ⟨_,rfl,by rw [hno (by simp [iB,hx,hko])];simp,yG⟩
 | true =>
  cases hvo:gH x.2 with
  | false =>
   repeat (first|refine aW rfl rfl rfl hlt rfl ⟨F,_,hs1⟩ rfl ?_|(refine aU ?_;refine eP rfl hs1 (two_at g1 g2) rfl rfl ?_)|(refine aL 94 ?_;refine aI rfl (key_t (s1.grow yG) hko) rfl ?_;rintro _ _ ⟨rfl,rfl⟩)|(refine aL 148 ?_;refine aI rfl (value_t (s2.grow yG) hvo) rfl ?_;rintro _ _ ⟨rfl,rfl⟩)|refine aX rfl rfl rfl ?_|(refine aB ?_;refine TL.pure rfl rfl ?_)|(refine aD ?_;refine TL.pure rfl rfl ?_)|refine aK rfl yM rfl ?_|refine aF rfl rfl ?_|refine TL.nil ?_|refine aA ?_|refine aJ ?_|refine aC ?_|refine T.block ?_|(refine aH ?_;refine bA rfl yD rfl ?_)|(refine aP ?_;(refine aY rfl rfl yB (by exact rfl) (by exact rfl) (by exact rfl) ?_;intro w' hu hbk hsz))|(refine bD ?_;(refine TL.alloc rfl rfl ?_;intro bk w' hg hbk hsz hsz'))|refine aN rfl ?_|refine bC ?_|refine aV ?_|refine bI ?_|refine dB ?_|refine dW ?_|refine TL.pure rfl rfl ?_)
   exact cF rfl ⟨_,rfl,by rw [hno (by simp [iB,hx,hvo])];simp,yG⟩
  | true =>
   repeat (first|refine aW rfl rfl rfl hlt rfl ⟨F,_,hs1⟩ rfl ?_|(refine aU ?_;refine eP rfl hs1 (two_at g1 g2) rfl rfl ?_)|(refine aL 94 ?_;refine aI rfl (key_t (s1.grow yG) hko) rfl ?_;rintro _ _ ⟨rfl,rfl⟩)|(refine aL 148 ?_;refine aI rfl (value_t (s2.grow yG) hvo) rfl ?_;rintro _ _ ⟨rfl,rfl⟩)|refine aX rfl rfl rfl ?_|(refine aB ?_;refine TL.pure rfl rfl ?_)|(refine aD ?_;refine TL.pure rfl rfl ?_)|refine aK rfl yM rfl ?_|refine aF rfl rfl ?_|refine TL.nil ?_|refine aA ?_|refine aJ ?_|refine aC ?_|refine T.block ?_|(refine aH ?_;refine bA rfl yD rfl ?_)|(refine aP ?_;(refine aY rfl rfl yB (by exact rfl) (by exact rfl) (by exact rfl) ?_;intro w' hu hbk hsz))|(refine bD ?_;(refine TL.alloc rfl rfl ?_;intro bk w' hg hbk hsz hsz'))|refine aN rfl ?_|refine aE rfl ?_|refine aV ?_|refine TL.pure rfl rfl ?_)
   cases i with
   | zero =>
    apply T.any 15 [is _,is _,is _,is _,is _,is _,is _,is _,is _,is _,is _,is _,is _,is _,is _];(· kernel_rfl);(· ((repeat' (first|exact bX|refine bU ?_ ?_));(iterate 15 (· ((first|refine aQ rfl rfl rfl ?_|refine does_mk rfl rfl rfl rfl ?_);( intro wq _ _ hgq;(repeat (refine aG rfl rfl ?_;intro vq hvq;try (obtain rfl:=hvq)));(refine aM ?_));(repeat (first|refine bQ rfl rfl rfl ?_|(refine aB ?_;refine TL.pure rfl rfl ?_)|refine TL.nil ?_|(refine aH ?_;refine aR rfl yD rfl ?_)|refine TL.pure rfl rfl ?_));exact aS rfl yG rfl)))));(rintro _ _ _ hgr _ _;(repeat (refine aG rfl rfl ?_;intro vq hvq;try (obtain rfl:=hvq)));(refine aM ?_))
    repeat (first|(refine aB ?_;refine TL.pure rfl rfl ?_)|(refine bJ ?_;refine bT rfl rfl (by omega) rfl ?_)|refine TL.nil ?_|refine aA ?_|refine aC ?_|refine aT ?_|refine aE rfl ?_|refine aV ?_)
    exact bG 1 ⟨rfl,rfl,rfl,rfl,trivial⟩ ⟨yB,yG,by omega,λ j hj=>by
     obtain rfl:j=0:=by omega
     simp [iB,hx,hko,hvo]⟩ (by omega)
   | succ j =>
    obtain ⟨y,hy⟩:∃ y,l[j]? = some y:=⟨_,List.getElem?_eq_getElem (by omega)⟩
    obtain ⟨ka',kc',va',vc',q1,q2,r1,r2⟩:=hcell j y hy
    by_cases hc:dU y.1 x.1<0
    ·apply T.any 15 [is _,is _,is _,is _,is _,is _,is _,is _,is _,is _,is _,is _,is _,is _,is _];(· kernel_rfl);(· ((repeat' (first|exact bX|refine bU ?_ ?_));(iterate 15 (· ((first|refine aQ rfl rfl rfl ?_|refine does_mk rfl rfl rfl rfl ?_);( intro wq _ _ hgq;(repeat (refine aG rfl rfl ?_;intro vq hvq;try (obtain rfl:=hvq)));(refine aM ?_));(repeat (first|refine aX rfl rfl rfl ?_|(refine aB ?_;refine TL.pure rfl rfl ?_)|refine aK rfl yM rfl ?_|refine aF rfl rfl ?_|(refine cJ ?_;refine dI rfl rfl (by omega) (by omega) rfl ?_)|refine TL.nil ?_|(refine aH ?_;first|refine bA rfl yD rfl ?_|refine aR rfl yD rfl ?_)|refine TL.pure rfl rfl ?_|(refine bF ?_;refine aW (j:=j) rfl rfl (by omega) (by omega) rfl ⟨F,_,hs.grow yG⟩ rfl ?_)|(refine gR ?_;refine gS rfl (hs.grow yG) q1 rfl ?_)|(refine aU ?_;refine aK rfl ((hs.grow yG).row.cell q1) rfl ?_)|(refine aL 139 ?_;refine aI rfl (gE _ _ _ _ _ _ _ _ _ _ _ (r1.grow yG) (s1.grow yG)) rfl ?_;rintro _ _ ⟨rfl,hgc⟩)));exact aS rfl yG rfl)))));(rintro _ _ _ hgr _ _;(repeat (refine aG rfl rfl ?_;intro vq hvq;try (obtain rfl:=hvq)));(refine aM ?_))
     repeat (first|(refine aB ?_;refine TL.pure rfl rfl ?_)|(refine bJ ?_;refine bT rfl rfl (by omega) rfl ?_)|refine TL.nil ?_|refine aA ?_|refine aC ?_|refine aT ?_|refine aE rfl ?_|refine aV ?_)
     exact bG (j+1+1) ⟨rfl,rfl,rfl,rfl,trivial⟩ ⟨yB,yG,by omega,λ k hk=>by
      by_cases hk2:k=j+1
      ·subst hk2;simp [iB,hx,hy,hko,hvo,hc]
      ·exact hall k (by omega)⟩ (by omega)
    ·apply T.any 15 [is _,is _,is _,is _,is _,is _,is _,is _,is _,is _,is _,is _,is _,is _,is _];(· kernel_rfl);(· ((repeat' (first|exact bX|refine bU ?_ ?_));(iterate 15 (· ((first|refine aQ rfl rfl rfl ?_|refine does_mk rfl rfl rfl rfl ?_);( intro wq _ _ hgq;(repeat (refine aG rfl rfl ?_;intro vq hvq;try (obtain rfl:=hvq)));(refine aM ?_));(repeat (first|refine aX rfl rfl rfl ?_|(refine aB ?_;refine TL.pure rfl rfl ?_)|refine aK rfl yM rfl ?_|refine aF rfl rfl ?_|(refine cJ ?_;refine dI rfl rfl (by omega) (by omega) rfl ?_)|refine TL.nil ?_|(refine aH ?_;refine bA rfl yD rfl ?_)|refine TL.pure rfl rfl ?_|(refine bF ?_;refine aW (j:=j) rfl rfl (by omega) (by omega) rfl ⟨F,_,hs.grow yG⟩ rfl ?_)|(refine gR ?_;refine gS rfl (hs.grow yG) q1 rfl ?_)|(refine aU ?_;refine aK rfl ((hs.grow yG).row.cell q1) rfl ?_)|(refine aL 139 ?_;refine aI rfl (gE _ _ _ _ _ _ _ _ _ _ _ (r1.grow yG) (s1.grow yG)) rfl ?_;rintro _ _ ⟨rfl,hgc⟩)));exact aS rfl yG rfl)))));(rintro _ _ _ hgr _ _;(repeat (refine aG rfl rfl ?_;intro vq hvq;try (obtain rfl:=hvq)));(refine aM ?_))
     repeat (first|(refine aD ?_;refine TL.pure rfl rfl ?_)|refine TL.nil ?_|refine aA ?_|refine aJ ?_|refine aC ?_|refine aN rfl ?_|refine bC ?_|refine bI ?_|refine dB ?_|refine dW ?_)
     exact cF rfl ⟨_,rfl,by rw [hno (by simp [iB,hx,hy,hc])];simp,yG⟩
end Go.Proofs.YtfpadnmdafiddaaGreatDoor
namespace Go.Proofs.YtfpadnmdafiddaaGreatDoor
open Go Go.RowKit Go.V
theorem ints_at {l:List Nat} {i x:Nat} (h:l[i]? = some x):(cB l)[i]? = some (.int .i64 (x:Int)):=by simp [cB,h]
theorem ints_take (l:List Nat) (i:Nat):(cB l).take i=cB (l.take i):=by simp [cB,List.map_take]
theorem index_c (F:Nat→Prop) (a:Option Addr) (n c:Nat) (l:List Nat) (k:Nat) (w:World) (hs:Sl F w 1 a n c (cB l)) :
  Calls Tryz.prog 294 #[.slice a n c,.int .i64 (k:Int)] w (Ret λ v w'=>(∃ z:Int,v=.int .i64 z∧(0≤z↔l.contains k=true))∧w=w'):=by
 refine V.calls (args:=[_,_]) Tryz.func294 rfl Tryz.ntmps294 rfl rfl ?_
 have hn:=dX hs
 have hle:=hs.le
 repeat (first|(refine aB ?_;refine TL.pure rfl rfl ?_)|(refine aD ?_;refine TL.pure rfl rfl ?_)|refine TL.nil ?_|refine aA ?_|refine aJ ?_|refine aC ?_|refine T.block ?_|refine aO rfl rfl ?_)
 refine cM (S:=Nat) (λ i=>[(8,.int .i64 (i:Int)),(7,.int .i64 (n:Int)),(0,.slice a n c),(1,.int .i64 (k:Int))]) (λ i w'=>w=w'∧i≤n∧∀ j,j<i→l[j]?≠some k) (λ i=>n-i) 0 ⟨rfl,rfl,rfl,rfl,trivial⟩ ⟨rfl,by omega,λ j hj=>by omega⟩ ?_
 rintro i _ ⟨rfl,hi,hall⟩
 by_cases hlt:i<n
 ·obtain ⟨p,hp⟩:∃ p,l[i]? = some p:=⟨_,List.getElem?_eq_getElem (by omega)⟩
  have hcx:w.cell? (at' a i)=some (.int .i64 (p:Int)):=hs.row.cell (ints_at hp)
  by_cases he:k=p
  ·repeat (first|(refine bF ?_;refine aW rfl rfl rfl hlt (Nat.mul_one _) ⟨F,_,hs⟩ rfl ?_)|(refine aB ?_;refine TL.pure rfl rfl ?_)|(refine aD ?_;refine TL.pure rfl rfl ?_)|refine aK rfl yM rfl ?_|refine TL.nil ?_|refine aA ?_|refine aJ ?_|refine aC ?_|refine T.block ?_|(refine aH ?_;refine bA rfl yD rfl ?_)|refine aN rfl ?_|refine bC ?_|refine aV ?_|refine bI ?_|refine dB ?_|refine dW ?_)
   exact cF rfl ⟨_,rfl,⟨_,rfl,⟨λ _=>List.contains_iff_mem.2 (List.mem_of_getElem? (he▸hp)),λ _=>by omega⟩⟩,rfl⟩
  ·repeat (first|(refine bF ?_;refine aW rfl rfl rfl hlt (Nat.mul_one _) ⟨F,_,hs⟩ rfl ?_)|(refine aB ?_;refine TL.pure rfl rfl ?_)|(refine aD ?_;refine TL.pure rfl rfl ?_)|refine aK rfl yM rfl ?_|(refine bJ ?_;refine bT rfl rfl (by omega) rfl ?_)|refine TL.nil ?_|refine aA ?_|refine aJ ?_|refine aC ?_|refine T.block ?_|refine aT ?_|(refine aH ?_;first|refine bA rfl yD rfl ?_|refine aR rfl yD rfl ?_)|refine aN rfl ?_|refine aE rfl ?_|refine aV ?_)
   exact bG (i+1) ⟨rfl,rfl,rfl,rfl,trivial⟩ ⟨rfl,by omega,λ j hj=>by
    by_cases hj2:j=i
    ·subst hj2;rw [hp];simp;omega
    ·exact hall j (by omega)⟩ (by omega)
 ·repeat (first|(refine aD ?_;refine TL.pure rfl rfl ?_)|refine TL.nil ?_|refine aA ?_|refine aJ ?_|refine aC ?_|(refine aH ?_;refine aR rfl yD rfl ?_)|refine aE rfl ?_|refine bC ?_|refine cN ?_|refine bM ?_|refine bO ?_|refine bN ?_)
  refine cF rfl ⟨_,rfl,⟨_,rfl,⟨λ h=>by omega,λ h=>?_⟩⟩,rfl⟩
  obtain ⟨j,hj,e⟩:=List.mem_iff_getElem.1 (List.contains_iff_mem.1 h)
  exact absurd (by rw [List.getElem?_eq_getElem hj,e]) (hall j (by omega))
theorem contains_t {F:Nat→Prop} {a:Option Addr} {n c:Nat} {l:List Nat} {k:Nat} {w:World} {b:Bool} (hs:Sl F w 1 a n c (cB l)) (hb:l.contains k=b) :
  Calls Tryz.prog 293 #[.slice a n c,.int .i64 (k:Int)] w (Ret λ v w'=>v=.bool b∧w=w'):=by
 refine V.calls (args:=[_,_]) Tryz.func293 rfl Tryz.ntmps293 rfl rfl ?_
 repeat (first|(refine aB ?_;refine TL.pure rfl rfl ?_)|(refine aD ?_;refine TL.pure rfl rfl ?_)|refine TL.nil ?_|refine aA ?_|refine aJ ?_|refine aC ?_)
 refine aI rfl (index_c F a n c l k _ hs) rfl ?_
 rintro _ _ ⟨⟨z,rfl,hz⟩,rfl⟩
 repeat (first|(refine aD ?_;refine TL.pure rfl rfl ?_)|refine TL.nil ?_|refine aA ?_|(refine aH ?_;refine TL.pure rfl rfl ?_)|refine bC ?_)
 exact cF rfl ⟨_,rfl,congrArg Value.bool (by rw [← hb,Bool.eq_iff_iff,← hz];simp),rfl⟩
theorem KysAt.at' {F:Nat→Prop} {w:World} {a:Option Addr} {n c:Nat} {l:List Bs} (h:KysAt F w a n c l):∃ cs,Sl F w 1 a n c cs∧∀ (i:Nat) (x:Bs),l[i]? = some x→∃ ka kc,cs[i]? = some (.slice ka x.length kc)∧Sl F w 1 ka x.length kc (cX x):=by
 obtain ⟨cs,h1,h2⟩:=h.ex
 refine ⟨cs,h1,λ i x hx=>?_⟩
 obtain ⟨k,g1,g3⟩:=h2.at' hx
 obtain ⟨ka,kc,rfl,s1⟩:=g3.sl
 exact ⟨ka,kc,g1,s1⟩
theorem wholeB_c (F:Nat→Prop) (a1:Option Addr) (n1 c1:Nat) (a2:Option Addr) (n2 c2:Nat) (a3:Option Addr) (n3 c3:Nat) (l:List Nat) (ks:List Bs) (w:World) (hk:Sl F w 1 a2 n2 c2 (cB l)) (hy:KysAt F w a3 n3 c3 ks) :
  Calls Tryz.prog 292 #[.agg #[.slice a1 n1 c1,.slice a2 n2 c2,.slice a3 n3 c3]] w (Ret λ v w'=>v=.bool (decide (n1=0)&&decide (2≤n2)&&decide (n2≤8)&&decide (n3+1=n2)&&gF (kO l) n2&&gF (jP ks) n3)∧Grow w w'):=by
 refine V.calls (args:=[_]) Tryz.func292 rfl Tryz.ntmps292 rfl rfl ?_
 have hn2:=dX hk
 have hn3:=hy.len
 by_cases h1:n1=0
 rotate_left
 ·repeat (first|refine bQ rfl rfl rfl ?_|(refine aB ?_;refine TL.pure rfl rfl ?_)|(refine aD ?_;refine TL.pure rfl rfl ?_)|refine aK rfl yM rfl ?_|refine aF rfl rfl ?_|refine TL.nil ?_|refine aA ?_|refine aJ ?_|refine aC ?_|(refine aH ?_;refine bA rfl yD rfl ?_)|(refine bW ?_;(refine dJ rfl rfl ?_;intro bk w' hg hbk hsz hsz'))|refine aO rfl rfl ?_|refine aN rfl ?_|refine bC ?_|refine bI ?_|refine TL.pure rfl rfl ?_)
  exact cF rfl ⟨_,rfl,by simp [h1],yG⟩
 by_cases h2:2≤n2
 rotate_left
 ·repeat (first|(refine iG ?_;first|refine bQ rfl rfl rfl ?_|refine aX rfl rfl rfl ?_)|(refine aB ?_;refine TL.pure rfl rfl ?_)|(refine aD ?_;refine TL.pure rfl rfl ?_)|refine aK rfl yM rfl ?_|refine aF rfl rfl ?_|refine TL.nil ?_|refine aA ?_|refine aJ ?_|refine aC ?_|(refine aH ?_;first|refine bA rfl yD rfl ?_|refine aR rfl yD rfl ?_)|(refine bW ?_;(refine dJ rfl rfl ?_;intro bk w' hg hbk hsz hsz'))|refine aO rfl rfl ?_|refine aN rfl ?_|refine bC ?_|refine bI ?_|refine TL.pure rfl rfl ?_)
  exact cF rfl ⟨_,rfl,by simp [h2],yG⟩
 by_cases h8:n2≤8
 rotate_left
 ·repeat (first|(refine iG ?_;first|refine bQ rfl rfl rfl ?_|refine aX rfl rfl rfl ?_)|(refine aB ?_;refine TL.pure rfl rfl ?_)|(refine aD ?_;refine TL.pure rfl rfl ?_)|refine aK rfl yM rfl ?_|refine aF rfl rfl ?_|refine TL.nil ?_|refine aA ?_|refine aJ ?_|refine aC ?_|(refine aH ?_;first|refine bA rfl yD rfl ?_|refine aR rfl yD rfl ?_)|(refine bW ?_;(refine dJ rfl rfl ?_;intro bk w' hg hbk hsz hsz'))|refine aO rfl rfl ?_|refine aN rfl ?_|refine bC ?_|refine bI ?_|refine TL.pure rfl rfl ?_)
  exact cF rfl ⟨_,rfl,by simp [h8],yG⟩
 by_cases h4:n3+1=n2
 rotate_left
 ·repeat (first|refine aX rfl rfl rfl ?_|(refine aB ?_;refine TL.pure rfl rfl ?_)|(refine aD ?_;refine TL.pure rfl rfl ?_)|refine aK rfl yM rfl ?_|refine aF rfl rfl ?_|(refine cJ ?_;refine dI rfl rfl (by omega) (by omega) rfl ?_)|refine TL.nil ?_|refine aA ?_|refine aJ ?_|refine aC ?_|(refine aH ?_;first|refine bA rfl yD rfl ?_|refine aR rfl yD rfl ?_)|(refine bW ?_;(refine dJ rfl rfl ?_;intro bk w' hg hbk hsz hsz'))|refine aO rfl rfl ?_|refine aN rfl ?_|refine bC ?_|refine bI ?_|refine TL.pure rfl rfl ?_)
  exact cF rfl ⟨_,rfl,by simp [h4],yG⟩
 repeat (first|refine aX rfl rfl rfl ?_|(refine aB ?_;refine TL.pure rfl rfl ?_)|(refine aD ?_;refine TL.pure rfl rfl ?_)|refine aK rfl yM rfl ?_|refine aF rfl rfl ?_|(refine cJ ?_;refine dI rfl rfl (by omega) (by omega) rfl ?_)|refine TL.nil ?_|refine aA ?_|refine aJ ?_|refine aC ?_|refine T.block ?_|(refine aH ?_;refine aR rfl yD rfl ?_)|(refine bW ?_;(refine dJ rfl rfl ?_;intro bk w' hg hbk hsz hsz'))|refine aO rfl rfl ?_|refine aE rfl ?_|refine aV ?_|refine TL.pure rfl rfl ?_)
 have hbox:=hbk
 refine cM (S:=Nat) (λ i=>[(36,.int .i64 (i:Int)),(35,.int .i64 (n2:Int)),(34,.slice a2 n2 c2),(1,.pointer (some ⟨bk,0,none⟩))]) (λ i w1=>Blk w1 bk 271 [.slice a1 n1 c1,.slice a2 n2 c2,.slice a3 n3 c3]∧Grow w w1∧i≤n2∧∀ j,j<i→kO l j=true) (λ i=>n2-i) 0 ⟨rfl,rfl,rfl,rfl,trivial⟩ ⟨hbk,hg,by omega,λ j hj=>by omega⟩ ?_
 clear hbk hg hbox
 rintro i w1 ⟨hbk,hg1,hi,hall⟩
 have hblt:=hbk.lt
 have hk1:=hk.grow hg1
 by_cases hlt:i<n2
 ·obtain ⟨p,hp⟩:∃ p,l[i]? = some p:=⟨_,List.getElem?_eq_getElem (by omega)⟩
  have hcx:w1.cell? (at' a2 i)=some (.int .i64 (p:Int)):=hk1.row.cell (ints_at hp)
  have hno:kO l i=false→gF (kO l) n2=false:=λ h0=>by
   cases hb:gF (kO l) n2 with
   | false=>rfl
   | true=>have:=nC hb hlt;rw [h0] at this;cases this
  by_cases hp2:p≤2147483647
  ·cases hct:(l.take i).contains p with
   | false =>
    repeat (first|(refine bF ?_;refine aW rfl rfl rfl hlt (Nat.mul_one _) ⟨F,_,hk1⟩ rfl ?_)|(refine eB ?_;refine TL.slice (l:=0) (h:=i) (mm:=c2) rfl hk1 (bZ _) (dG rfl rfl) (bZ _) (by intro h;cases h) (by omega) (by omega) (by have:=hk.cap;omega) (Nat.le_refl _) rfl ?_;intro a' hsl _)|(refine aL 293 ?_;refine aI rfl (contains_t (by simpa [ints_take] using hsl) hct) rfl ?_;rintro _ _ ⟨rfl,rfl⟩)|refine aX rfl rfl rfl ?_|(refine aB ?_;refine TL.pure rfl rfl ?_)|(refine aD ?_;refine TL.pure rfl rfl ?_)|refine aK rfl yM rfl ?_|refine aF rfl rfl ?_|(refine bJ ?_;refine bT rfl rfl (by omega) rfl ?_)|refine TL.nil ?_|refine aA ?_|refine aJ ?_|refine aC ?_|refine T.block ?_|refine aT ?_|(refine aH ?_;first|refine bA rfl yD rfl ?_|refine aR rfl yD rfl ?_)|refine aN rfl ?_|refine aE rfl ?_|refine aV ?_|refine TL.pure rfl rfl ?_)
    exact bG (i+1) ⟨rfl,rfl,rfl,rfl,trivial⟩ ⟨yB,yG,by omega,λ j hj=>by
     by_cases hj2:j=i
     ·subst hj2;unfold kO;rw [hp];simp only [hct,Bool.not_false,Bool.and_true,decide_eq_true_eq];omega
     ·exact hall j (by omega)⟩ (by omega)
   | true =>
    repeat (first|(refine bF ?_;refine aW rfl rfl rfl hlt (Nat.mul_one _) ⟨F,_,hk1⟩ rfl ?_)|(refine eB ?_;refine TL.slice (l:=0) (h:=i) (mm:=c2) rfl hk1 (bZ _) (dG rfl rfl) (bZ _) (by intro h;cases h) (by omega) (by omega) (by have:=hk.cap;omega) (Nat.le_refl _) rfl ?_;intro a' hsl _)|(refine aL 293 ?_;refine aI rfl (contains_t (by simpa [ints_take] using hsl) hct) rfl ?_;rintro _ _ ⟨rfl,rfl⟩)|refine aX rfl rfl rfl ?_|(refine aB ?_;refine TL.pure rfl rfl ?_)|(refine aD ?_;refine TL.pure rfl rfl ?_)|refine aK rfl yM rfl ?_|refine aF rfl rfl ?_|refine TL.nil ?_|refine aA ?_|refine aJ ?_|refine aC ?_|refine T.block ?_|(refine aH ?_;first|refine bA rfl yD rfl ?_|refine aR rfl yD rfl ?_)|refine aN rfl ?_|refine bC ?_|refine aV ?_|refine bI ?_|refine dB ?_|refine dW ?_|refine TL.pure rfl rfl ?_)
    exact cF rfl ⟨_,rfl,by rw [hno (by unfold kO;rw [hp];simp only [hct,Bool.not_true,Bool.and_false])];simp,yG⟩
  ·repeat (first|(refine bF ?_;refine aW rfl rfl rfl hlt (Nat.mul_one _) ⟨F,_,hk1⟩ rfl ?_)|(refine iG ?_;first|refine bQ rfl rfl rfl ?_|refine aX rfl rfl rfl ?_)|(refine aB ?_;refine TL.pure rfl rfl ?_)|(refine aD ?_;refine TL.pure rfl rfl ?_)|refine aK rfl yM rfl ?_|refine TL.nil ?_|refine aA ?_|refine aJ ?_|refine aC ?_|refine T.block ?_|(refine aH ?_;first|refine bA rfl yD rfl ?_|refine aR rfl yD rfl ?_)|refine aN rfl ?_|refine bC ?_|refine aV ?_|refine bI ?_|refine dB ?_|refine dW ?_|refine TL.pure rfl rfl ?_)
   exact cF rfl ⟨_,rfl,by rw [hno (by simp [kO,hp];omega)];simp,yG⟩
 have hkids:gF (kO l) n2=true:=nB λ j hj=>hall j (by omega)
 clear hall
 obtain ⟨cs,hs,hcell⟩:=hy.at'
 repeat (first|(refine aB ?_;refine TL.pure rfl rfl ?_)|refine aK rfl yM rfl ?_|refine aF rfl rfl ?_|refine TL.nil ?_|refine aA ?_|refine aJ ?_|refine aC ?_|refine T.block ?_|(refine aH ?_;refine aR rfl yD rfl ?_)|refine aO rfl rfl ?_|refine aE rfl ?_|refine cN ?_|refine bM ?_|refine bO ?_|refine bN ?_)
 refine cM (S:=Nat) (λ i=>[(59,.int .i64 (i:Int)),(58,.int .i64 (n3:Int)),(57,.slice a3 n3 c3),(1,.pointer (some ⟨bk,0,none⟩))]) (λ i w1=>Blk w1 bk 271 [.slice a1 n1 c1,.slice a2 n2 c2,.slice a3 n3 c3]∧Grow w w1∧i≤n3∧∀ j,j<i→jP ks j=true) (λ i=>n3-i) 0 ⟨rfl,rfl,rfl,rfl,trivial⟩ ⟨hbk,hg1,by omega,λ j hj=>by omega⟩ ?_
 clear hbk hk1 hblt hg1
 rintro i w1 ⟨hbk,hg1,hi,hall⟩
 have hblt:=hbk.lt
 have hs1:=hs.grow hg1
 by_cases hlt:i<n3
 rotate_left
 ·have hkeys:gF (jP ks) n3=true:=nB λ j hj=>hall j (by omega)
  repeat (first|(refine aD ?_;refine TL.pure rfl rfl ?_)|refine TL.nil ?_|refine aA ?_|refine aJ ?_|refine aC ?_|(refine aH ?_;refine aR rfl yD rfl ?_)|refine aE rfl ?_|refine bC ?_|refine cN ?_|refine bM ?_|refine bO ?_|refine bN ?_)
  exact cF rfl ⟨_,rfl,by rw [hkids,hkeys];simp [h1,h2,h8,h4],yG⟩
 obtain ⟨p,hp⟩:∃ p,ks[i]? = some p:=⟨_,List.getElem?_eq_getElem (by omega)⟩
 obtain ⟨ka,kc,g1,s1⟩:=hcell i p hp
 have hcx:w1.cell? (at' a3 i)=some (.slice ka p.length kc):=hs1.row.cell g1
 have s1':=s1.grow hg1
 have hno:jP ks i=false→gF (jP ks) n3=false:=λ h0=>by
  cases hb:gF (jP ks) n3 with
  | false=>rfl
  | true=>have:=nC hb hlt;rw [h0] at this;cases this
 cases hko:dR p with
 | false =>
  repeat (first|refine TL.guard_left rfl rfl rfl ?_|(refine bF ?_;refine aW rfl rfl rfl hlt (Nat.mul_one _) ⟨F,_,hs1⟩ rfl ?_)|(refine aL 94 ?_;refine aI rfl (key_t s1' hko) rfl ?_;rintro _ _ ⟨rfl,rfl⟩)|refine bQ rfl rfl rfl ?_|(refine aB ?_;refine TL.pure rfl rfl ?_)|(refine aD ?_;refine TL.pure rfl rfl ?_)|refine aK rfl yM rfl ?_|refine TL.nil ?_|refine aA ?_|refine aJ ?_|refine aC ?_|refine T.block ?_|(refine aH ?_;refine bA rfl yD rfl ?_)|refine aN rfl ?_|refine bC ?_|refine aV ?_|refine bI ?_|refine dB ?_|refine dW ?_|refine TL.pure rfl rfl ?_)
  exact cF rfl ⟨_,rfl,by rw [hno (by simp [jP,hp,hko])];simp,yG⟩
 | true =>
  cases i with
  | zero =>
   repeat (first|(refine bF ?_;refine aW rfl rfl rfl hlt (Nat.mul_one _) ⟨F,_,hs1⟩ rfl ?_)|(refine aL 94 ?_;refine aI rfl (key_t s1' hko) rfl ?_;rintro _ _ ⟨rfl,rfl⟩)|(refine iG ?_;first|refine bQ rfl rfl rfl ?_|refine aX rfl rfl rfl ?_)|(refine aB ?_;refine TL.pure rfl rfl ?_)|(refine aD ?_;refine TL.pure rfl rfl ?_)|refine aK rfl yM rfl ?_|(refine bJ ?_;refine bT rfl rfl (by omega) rfl ?_)|refine TL.nil ?_|refine aA ?_|refine aJ ?_|refine aC ?_|refine T.block ?_|refine aT ?_|(refine aH ?_;first|refine bA rfl yD rfl ?_|refine aR rfl yD rfl ?_)|refine aN rfl ?_|refine aE rfl ?_|refine aV ?_|refine TL.pure rfl rfl ?_)
   exact bG 1 ⟨rfl,rfl,rfl,rfl,trivial⟩ ⟨yB,yG,by omega,λ j hj=>by
     obtain rfl:j=0:=by omega
     simp [jP,hp,hko]⟩ (by omega)
  | succ j =>
   obtain ⟨q,hq⟩:∃ q,ks[j]? = some q:=⟨_,List.getElem?_eq_getElem (by omega)⟩
   obtain ⟨ka',kc',q1,r1⟩:=hcell j q hq
   have hcy:w1.cell? (at' a3 j)=some (.slice ka' q.length kc'):=hs1.row.cell q1
   have r1':=r1.grow hg1
   by_cases hc:dU q p<0
   ·repeat (first|(refine bF ?_;first|refine aW rfl rfl rfl hlt (Nat.mul_one _) ⟨F,_,hs1⟩ rfl ?_|refine aW (j:=j) rfl rfl (by omega) (by omega) (Nat.mul_one _) ⟨F,_,hs1⟩ rfl ?_)|(refine aL 94 ?_;refine aI rfl (key_t s1' hko) rfl ?_;rintro _ _ ⟨rfl,rfl⟩)|(refine aL 139 ?_;refine aI rfl (gE _ _ _ _ _ _ _ _ _ _ _ r1' s1') rfl ?_;rintro _ _ ⟨rfl,hgc⟩)|refine aX rfl rfl rfl ?_|(refine aB ?_;refine TL.pure rfl rfl ?_)|(refine aD ?_;refine TL.pure rfl rfl ?_)|refine aK rfl yM rfl ?_|refine aF rfl rfl ?_|(refine bJ ?_;refine bT rfl rfl (by omega) rfl ?_)|(refine cJ ?_;refine dI rfl rfl (by omega) (by omega) rfl ?_)|refine TL.nil ?_|refine aA ?_|refine aJ ?_|refine aC ?_|refine T.block ?_|refine aT ?_|(refine aH ?_;first|refine bA rfl yD rfl ?_|refine aR rfl yD rfl ?_)|refine aN rfl ?_|refine aE rfl ?_|refine aV ?_|refine TL.pure rfl rfl ?_)
    exact bG (j+1+1) ⟨rfl,rfl,rfl,rfl,trivial⟩ ⟨yB,yG,by omega,λ k hk=>by
      by_cases hk2:k=j+1
      ·subst hk2;simp [jP,hp,hq,hko,hc]
      ·exact hall k (by omega)⟩ (by omega)
   ·repeat (first|(refine bF ?_;first|refine aW rfl rfl rfl hlt (Nat.mul_one _) ⟨F,_,hs1⟩ rfl ?_|refine aW (j:=j) rfl rfl (by omega) (by omega) (Nat.mul_one _) ⟨F,_,hs1⟩ rfl ?_)|(refine aL 94 ?_;refine aI rfl (key_t s1' hko) rfl ?_;rintro _ _ ⟨rfl,rfl⟩)|(refine aL 139 ?_;refine aI rfl (gE _ _ _ _ _ _ _ _ _ _ _ r1' s1') rfl ?_;rintro _ _ ⟨rfl,hgc⟩)|refine aX rfl rfl rfl ?_|(refine aB ?_;refine TL.pure rfl rfl ?_)|(refine aD ?_;refine TL.pure rfl rfl ?_)|refine aK rfl yM rfl ?_|refine aF rfl rfl ?_|(refine cJ ?_;refine dI rfl rfl (by omega) (by omega) rfl ?_)|refine TL.nil ?_|refine aA ?_|refine aJ ?_|refine aC ?_|refine T.block ?_|(refine aH ?_;refine bA rfl yD rfl ?_)|refine aN rfl ?_|refine bC ?_|refine aV ?_|refine bI ?_|refine dB ?_|refine dW ?_|refine TL.pure rfl rfl ?_)
    exact cF rfl ⟨_,rfl,by rw [hno (by simp [jP,hp,hq,hc])];simp,yG⟩
theorem check_c (F:Nat→Prop) (x:NV) (nd:Nd) (w:World) (h:NdAt F w x nd) :
  Calls Tryz.prog 188 #[x.val] w (Ret λ v w'=>v=.int .i64 (if cH nd then 0 else 2)∧Grow w w'):=by
 have hn1:=h.its.len
 have hn2:=dX h.kids
 have hn3:=h.kys.len
 refine V.calls (args:=[_]) Tryz.func188 rfl Tryz.ntmps188 rfl rfl ?_
 by_cases h2:x.n2=0
 ·have hlf:cK nd=true:=by rw [dK];exact List.eq_nil_of_length_eq_zero (by omega)
  have hb:cH nd=(decide (x.n3=0)&&decide (x.n1≤8)&&gF (iB nd.items) x.n1):=by
   unfold cH wholeL
   have e:nd.keys.isEmpty=decide (nd.keys.length=0):=by cases nd.keys<;>simp
   rw [if_pos hlf,hn1,hn3,e]
  cases hok:cH nd with
  | true =>
   repeat (first|(refine aL 189 ?_;refine aI rfl (shape_leaf x _ h2) rfl ?_;rintro _ _ ⟨rfl,hgc⟩)|(refine mL ?_;refine TL.invoke0 rfl (wholeL_c F _ _ _ _ _ _ _ _ (h.its.go (Carry.grow yG))) rfl ?_;rintro _ _ ⟨rfl,hgc⟩;rw [← hb,hok])|(refine aD ?_;refine TL.pure rfl rfl ?_)|(refine aU ?_;refine bE rfl yB (by exact rfl) rfl ?_)|refine TL.nil ?_|refine aA ?_|refine aJ ?_|refine aC ?_|(refine bW ?_;(refine dJ rfl rfl ?_;intro bk w' hg hbk hsz hsz'))|refine aE rfl ?_|refine bC ?_|refine aV ?_|refine TL.pure rfl rfl ?_)
   exact cF rfl ⟨_,rfl,rfl,yG⟩
  | false =>
   repeat (first|(refine aL 189 ?_;refine aI rfl (shape_leaf x _ h2) rfl ?_;rintro _ _ ⟨rfl,hgc⟩)|(refine mL ?_;refine TL.invoke0 rfl (wholeL_c F _ _ _ _ _ _ _ _ (h.its.go (Carry.grow yG))) rfl ?_;rintro _ _ ⟨rfl,hgc⟩;rw [← hb,hok])|(refine aD ?_;refine TL.pure rfl rfl ?_)|(refine aU ?_;refine bE rfl yB (by exact rfl) rfl ?_)|refine TL.nil ?_|refine aA ?_|refine aJ ?_|refine aC ?_|(refine bW ?_;(refine dJ rfl rfl ?_;intro bk w' hg hbk hsz hsz'))|refine aN rfl ?_|refine bC ?_|refine bI ?_|refine TL.pure rfl rfl ?_)
   exact cF rfl ⟨_,rfl,rfl,yG⟩
 ·have hlf:¬ cK nd=true:=by rw [dK];intro e;rw [e] at hn2;exact h2 hn2
  have hb:cH nd=(decide (x.n1=0)&&decide (2≤x.n2)&&decide (x.n2≤8)&&decide (x.n3+1=x.n2)&&gF (kO nd.kids) x.n2&&gF (jP nd.keys) x.n3):=by
   unfold cH wholeB
   have e:nd.items.isEmpty=decide (nd.items.length=0):=by cases nd.items<;>simp
   rw [if_neg hlf,hn1,hn2,hn3,e]
  cases hok:cH nd with
  | true =>
   repeat (first|(refine aL 189 ?_;refine aI rfl (kR x _ h2) rfl ?_;rintro _ _ ⟨rfl,hgc⟩)|(refine mL ?_;refine TL.invoke0 rfl (wholeB_c F _ _ _ _ _ _ _ _ _ _ _ _ (h.kids.go (Carry.grow yG)) (h.kys.go (Carry.grow yG))) rfl ?_;rintro _ _ ⟨rfl,hgc⟩;rw [← hb,hok])|(refine aD ?_;refine TL.pure rfl rfl ?_)|(refine aU ?_;refine bE rfl yB (by exact rfl) rfl ?_)|refine TL.nil ?_|refine aA ?_|refine aJ ?_|refine aC ?_|(refine bW ?_;(refine dJ rfl rfl ?_;intro bk w' hg hbk hsz hsz'))|refine aE rfl ?_|refine bC ?_|refine aV ?_|refine TL.pure rfl rfl ?_)
   exact cF rfl ⟨_,rfl,rfl,yG⟩
  | false =>
   repeat (first|(refine aL 189 ?_;refine aI rfl (kR x _ h2) rfl ?_;rintro _ _ ⟨rfl,hgc⟩)|(refine mL ?_;refine TL.invoke0 rfl (wholeB_c F _ _ _ _ _ _ _ _ _ _ _ _ (h.kids.go (Carry.grow yG)) (h.kys.go (Carry.grow yG))) rfl ?_;rintro _ _ ⟨rfl,hgc⟩;rw [← hb,hok])|(refine aD ?_;refine TL.pure rfl rfl ?_)|(refine aU ?_;refine bE rfl yB (by exact rfl) rfl ?_)|refine TL.nil ?_|refine aA ?_|refine aJ ?_|refine aC ?_|(refine bW ?_;(refine dJ rfl rfl ?_;intro bk w' hg hbk hsz hsz'))|refine aN rfl ?_|refine bC ?_|refine bI ?_|refine TL.pure rfl rfl ?_)
   exact cF rfl ⟨_,rfl,rfl,yG⟩
theorem check_ok {F:Nat→Prop} {x:NV} {nd:Nd} {w:World} (h:NdAt F w x nd) (hok:cH nd=true):Calls Tryz.prog 188 #[x.val] w (Ret λ v w'=>v=.int .i64 0∧Grow w w'):=by
 have:=check_c F x nd w h
 rwa [if_pos hok] at this
theorem check_bad {F:Nat→Prop} {x:NV} {nd:Nd} {w:World} (h:NdAt F w x nd) (hok:cH nd=false):Calls Tryz.prog 188 #[x.val] w (Ret λ v w'=>v=.int .i64 2∧Grow w w'):=by
 have:=check_c F x nd w h
 rwa [if_neg (by rw [hok];simp)] at this
end Go.Proofs.YtfpadnmdafiddaaGreatDoor
namespace Go.V
open Go Go.RowKit
section
variable [Rn]
variable {P:Program} {n:Nat} {e:dN} {w:World} {Q:dO} {ops:Array Oper} {rest:List Oper} {d:Nat} {ty:TypeId} {pos:String} {aft:Array Edge}
end
structure But (b:Nat) (w w':World):Prop where
 os:w'.os=w.os
 tape:w'.tape=w.tape
 output:w'.output=w.output
 size:w.heap.size≤w'.heap.size
 block:∀ k,k<w.heap.size→k≠b→w'.heap[k]? = w.heap[k]?
theorem But.refl (b:Nat) (w:World):But b w w:=⟨rfl,rfl,rfl,Nat.le_refl _,λ _ _ _=>rfl⟩
theorem lX {b:Nat} {w0 w w':World} (g:Grow w w') (h:But b w0 w):But b w0 w' :=
 ⟨g.1.os.trans h.os,g.1.tape.trans h.tape,g.1.output.trans h.output,Nat.le_trans h.size g.2,λ k hk hb=>(g.block k (Nat.lt_of_lt_of_le hk h.size)).trans (h.block k hk hb)⟩
theorem but_upd {b:Nat} {w0 w w':World} (u:Upd b w w') (h:But b w0 w):But b w0 w' :=
 ⟨u.os.trans h.os,u.tape.trans h.tape,u.output.trans h.output,Nat.le_trans h.size (Nat.le_of_eq u.size.symm),λ k hk hb=>(u.block k hb).trans (h.block k hk hb)⟩
theorem but_but {b:Nat} {w0 w w':World} (u:But b w w') (h:But b w0 w):But b w0 w' :=
 ⟨u.os.trans h.os,u.tape.trans h.tape,u.output.trans h.output,Nat.le_trans h.size u.size,λ k hk hb=>(u.block k (Nat.lt_of_lt_of_le hk h.size) hb).trans (h.block k hk hb)⟩
theorem eE {b k:Nat} {w w':World} {t:TypeId} {cs:List Value} (u:But b w w') (h:Blk w k t cs) (hk:k≠b):Blk w' k t cs:=by
 have hl:=h.lt
 unfold Blk at *
 rw [u.block k hl hk];exact h
theorem lP {b:Nat} {w0 w w':World} (u:But b w w') (hb:w0.heap.size≤b) (g:Grow w0 w):Grow w0 w':=Grow.mk
 ⟨u.os.trans g.1.os,u.tape.trans g.1.tape,u.output.trans g.1.output,Nat.le_trans g.2 u.size,λ k hk=>(u.block k (Nat.lt_of_lt_of_le hk g.2) (by omega)).trans (g.1.block k hk)⟩
end Go.V
namespace Go.V
open Go Go.RowKit
section
variable [Rn]
variable {P:Program} {n:Nat} {e:dN} {w:World} {Q:dO} {ops:Array Oper} {rest:List Oper} {d:Nat} {ty:TypeId} {pos:String} {aft:Array Edge}
theorem append_where {t ty e:TypeId} {i:TypeInfo} {z:Value} {base size bytes:Nat} (ht:P.underlying t=some (.slice e)) (hi:P.info? e=some i) (hz:i.zero=some z) (hsize:i.size=size) (hby:i.bytes=bytes)
  {v:Value} {k:Nat} {xs:List Value} (hown:w.ownsRow base e size v k xs) {a:Addr} {m c:Nat} {news:List Value} (hl:news.length=m*size) (hnews:∀ j u,news[j]? = some u→w.cell? (a.add j)=some u) (h1:∀ u∈news,u.oneCell'=true)
  (h63:k+m≤maxLen) (hbytes:(k+m)*bytes≤140737488355328) {v':Value} {w':World} (hrun:(Builtin.append_ #[t,t] ty #[v,.slice (some a) m c]).run P w=.ok v' w') :
  v'.ownBlock=v.ownBlock∨∀ j,v'.ownBlock=some j→w.heap.size≤j:=by
 subst hsize
 subst hby
 have hs63:k+m≤9223372036854775807:=by simp only [maxLen] at h63;omega
 rcases hown.2 with ⟨rfl,rfl⟩|⟨g,cap,cur,rfl,hbg,hg,hnc,hcm,hcs,htake⟩
 ·by_cases hm:m=0
  ·subst hm
   have hn:news=[]:=List.eq_nil_of_length_eq_zero (by simpa using hl)
   subst hn
   left
   simp [Builtin.append_,run_underlying ht,sizeOf,typeInfo,hi,Builtin.lenOf,Builtin.firstCells,loadCells,loadCellsFrom] at hrun
   rw [← hrun.1]
  ·rw [run_append_nil (P:=P) w t ty e i z ht hi hz a m c news hl hnews (by omega) (by omega) (by simp only [Nat.zero_add] at hbytes;omega)] at hrun
   cases hrun
   right
   intro j hj
   cases hj
   exact Nat.le_refl _
 ·by_cases hroom:k+m≤cap
  ·rw [run_append_room (P:=P) w t ty e i ht hi g k cap cur hg a m c news hl hnews h1 hroom (by rw [hl,hcs,← Nat.add_mul];exact Nat.mul_le_mul_right _ hroom)] at hrun
   cases hrun
   exact .inl rfl
  ·rw [run_append_grow (P:=P) w t ty e i z ht hi hz ⟨g,0,none⟩ k cap xs hown.1 (hown.cells (g:=g) rfl) a m c news hl hnews (by omega) (by omega) (growslice_fits (by omega) hbytes)] at hrun
   cases hrun
   right
   intro j hj
   cases hj
   exact Nat.le_refl _
theorem jV {t elem size bytes:Nat} {x y:Operand} {base m k0 c:Nat} {v:Value} {xs news:List Value} {F:Nat→Prop} {a:Option Addr} [ht:SliceTy P t elem size bytes]
  (hx:val e x=some v) (hy:val e y=some (.slice a m c)) (hown:w.ownsRow base elem size v k0 xs) (hs:Sl F w size a m c news) (h1:∀ u∈news,u.oneCell'=true)
  (h63:k0+m≤maxLen) (hbytes:(k0+m)*bytes≤140737488355328) (hbase:base≤w.heap.size) (hd:Nat.blt d n=true)
  (k:∀ v' w',w'.ownsRow base elem size v' (k0+m) (xs++news)→w.grownBy w' v.ownBlock→(∀ G:Nat→Prop,Carry (λ j=>G j∧v.ownBlock≠some j) w (λ j=>G j∧v'.ownBlock≠some j) w')→TL P n ops rest ((d,v')::e) w' Q) :
  TL P n ops (⟨some d,.call ⟨.builtin .append,#[x,y],#[t,t]⟩,ty,pos,aft,none⟩::rest) e w Q:=by
 obtain ⟨i,z,hi,hsz,hby,hz,hzs,hne⟩:=ht.info
 have car:∀ {v':Value} {w':World},w.grownBy w' v.ownBlock→(v'.ownBlock=v.ownBlock∨∀ j,v'.ownBlock=some j→w.heap.size≤j)→∀ G:Nat→Prop,Carry (λ j=>G j∧v.ownBlock≠some j) w (λ j=>G j∧v'.ownBlock≠some j) w':=by
  intro v' w' g hnew G
  refine ⟨g.size,λ j ⟨h1,h2⟩ hl=>⟨⟨h1,λ he=>?_⟩,g.block j hl (λ e=>h2 e.symm)⟩⟩
  rcases hnew with h|h
  ·exact h2 (h▸he)
  ·have:=h j he;omega
 cases a with
 | none =>
  have hm:=hs.cap
  have hc:=hs.nil rfl
  have hn:m=0:=by omega
  subst hn
  subst hc
  have hnews:news=[]:=List.eq_nil_of_length_eq_zero (by simpa using hs.len)
  subst hnews
  have hrun:=run_append_owned_none (P:=P) (w:=w) base t ty elem i size ht.und hi v k0 xs hown
  refine TL.run (v:=v) (w':=w) (λ r hr=>?_) hd (k v w (by simpa using hown) (World.grownBy.refl _ _) (car (World.grownBy.refl _ _) (.inl rfl)))
  simp [execOp,resolve,invoke,builtin,hr.eval hx,hr.eval hy,hrun]
 | some ad =>
  obtain ⟨v',w',hrun,h2,h3,h4⟩:=run_append_own (P:=P) w base t ty elem i z size bytes ht.und hi hz hsz hby hzs (Nat.pos_of_ne_zero hne) v k0 xs hown ad m c news hs.len (hs.row.cell_add rfl) h1 h63 hbytes hbase
  have hw:=append_where ht.und hi hz hsz hby hown hs.len (hs.row.cell_add rfl) h1 h63 hbytes hrun
  refine TL.run (v:=v') (w':=w') (λ r hr=>?_) hd (k v' w' h2 h3 (car h3 hw))
  simp [execOp,resolve,invoke,builtin,hr.eval hx,hr.eval hy,hrun]
end
end Go.V
namespace Go.V
open Go Go.RowKit Go.ChangeShapes Go.WideShapes Go.MapKept Go.ChangeMaps
structure Ordd (l:List MapEntry) (c:Nat):Prop where
 keys:l.Pairwise λ x y=>x.key≠y.key
 lt:∀ x∈l,x.born<c
 born:l.Pairwise λ x y=>x.born<y.born
def MapF (w:World) (m:Nat) (f:Nat→Option Value):Prop:=∃ es clock,w.heap[m]? = some (.map es clock)∧(∀ x∈es.toList,∃ n:Nat,n<9223372036854775808∧x.key=.int .i64 (n:Int)∧f n=some x.val) ∧
 (∀ n v,f n=some v→∃ x∈es.toList,x.key=.int .i64 (n:Int))∧Ordd es.toList clock
def mapB (P:Program) (t kt el:TypeId):Bool:=match P.underlying t with|some (.map k e)=>Nat.beq k kt&&Nat.beq e el|_=>false
class MapTy (P:Program) (t:TypeId) (kt el:outParam TypeId):Prop where
 h:mapB P t kt el=true
theorem MapTy.und {P:Program} {t kt el:TypeId} (h:MapTy P t kt el):P.underlying t=some (.map kt el):=by
 have h:=h.h
 unfold mapB at h
 split at h
 ·rename_i k e hu
  simp only [Bool.and_eq_true] at h
  rw [hu,Nat.eq_of_beq_eq_true h.1,Nat.eq_of_beq_eq_true h.2]
 ·cases h
section
variable [Rn]
variable {P:Program} {n:Nat} {e:dN} {w w':World} {Q:dO} {ops:Array Oper} {rest:List Oper} {d:Nat} {ty:TypeId} {pos:String} {aft:Array Edge}
theorem MapF.lt {m:Nat} {f:Nat→Option Value} (h:MapF w m f):m<w.heap.size:=by
 obtain ⟨es,c,h1,_⟩:=h
 exact (Array.getElem?_eq_some_iff.1 h1).1
theorem MapF.keep {m:Nat} {f:Nat→Option Value} (h:MapF w m f) (hk:w'.heap[m]? = w.heap[m]?):MapF w' m f:=by
 obtain ⟨es,c,h1,h2⟩:=h
 exact ⟨es,c,by rw [hk];exact h1,h2⟩
theorem MapF.grow {m:Nat} {f:Nat→Option Value} (g:Grow w w') (h:MapF w m f):MapF w' m f:=h.keep (g.block m h.lt)
theorem MapF.upd {m c:Nat} {f:Nat→Option Value} (u:Upd c w w') (hm:m≠c) (h:MapF w m f):MapF w' m f:=h.keep (u.block m hm)
theorem mF {kt:TypeId} (ht:IntTy P kt .i64) {k:Nat} (hk:k<9223372036854775808):keyOf P kt (.int .i64 (k:Int))=some (.int .i64 (k:Int)) :=
 Maps.keyOf_int_mk ht.und (by simp [Go.Lit.wf,IntKind.min,IntKind.max,IntKind.bits,IntKind.signed];omega)
theorem mK {t:TypeId} (hd:Nat.blt d n=true)
  (k:∀ b w',Grow w w'→MapF w' b (λ _=>none)→w.heap.size=b→w'.heap.size=b+1→TL P n ops rest ((d,.map (some b))::e) w' Q) :
  TL P n ops (⟨some d,.makeMap t none,ty,pos,aft,none⟩::rest) e w Q :=
 TL.run (v:=.map (some w.heap.size)) (w':=w.alloc (.map #[] 0)) (λ r hr=>by simp [execOp,run_makeMap]) hd
  (k _ _ (lQ _) ⟨#[],0,by show (w.heap.push _)[w.heap.size]? = _;simp,by simp,by simp,⟨List.Pairwise.nil,by simp,List.Pairwise.nil⟩⟩ rfl (by simp))
theorem MapF.find {kt m:Nat} (ht:IntTy P kt .i64) {f:Nat→Option Value} (h:MapF w m f) {k:Nat} (hk:k<9223372036854775808) :
  ∃ es c,w.heap[m]? = some (.map es c)∧(match f k with
   | none=>(Instr.findKey kt (.int .i64 (k:Int)) es.toList).run P w=.ok none w∧∀ x∈es.toList,x.key≠.int .i64 (k:Int)
   | some v=>∃ j e0,(Instr.findKey kt (.int .i64 (k:Int)) es.toList).run P w=.ok (some (j,v)) w∧es.toList[j]? = some e0∧e0.key=.int .i64 (k:Int)) ∧
   (∀ x∈es.toList,∃ n:Nat,n<9223372036854775808∧x.key=.int .i64 (n:Int)∧f n=some x.val)∧(∀ n v,f n=some v→∃ x∈es.toList,x.key=.int .i64 (n:Int))∧Ordd es.toList c:=by
 obtain ⟨es,c,h1,h2,h3,h5⟩:=h
 refine ⟨es,c,h1,?_,h2,h3,h5⟩
 have hkeys:∀ u∈es.toList,∃ l,keyOf P kt u.key=some l:=λ u hu=>by
  obtain ⟨n,hn,e1,_⟩:=h2 u hu
  rw [e1]
  exact ⟨_,mF ht hn⟩
 rcases (Maps.int_keyed ht.und).find w (mF ht hk) es.toList hkeys with ⟨g1,g2⟩|⟨j,e0,g1,g2,g3⟩
 ·cases hf:f k with
  | none=>exact ⟨g1,g2⟩
  | some v=>obtain ⟨x,hx,e⟩:=h3 k v hf;exact absurd e (g2 x hx)
 ·obtain ⟨n,hn,e1,e2⟩:=h2 e0 (List.mem_of_getElem? g2)
  rw [g3] at e1
  have hnk:n=k:=by simp only [Value.int.injEq,true_and] at e1;omega
  subst hnk
  rw [e2]
  exact ⟨j,e0,g1,g2,g3⟩
theorem TL.lookupYes {t kt el m k:Nat} {x y:Operand} {f:Nat→Option Value} {v:Value} [ht:MapTy P t kt el] [hk:IntTy P kt .i64] (hx:val e x=some (.map (some m))) (hy:val e y=some (.int .i64 (k:Int))) (hm:MapF w m f) (hf:f k=some v) (hkl:k<9223372036854775808) (hd:Nat.blt d n=true)
  (kk:TL P n ops rest ((d,.tuple #[v,.bool true])::e) w Q):TL P n ops (⟨some d,.lookup t x y true,ty,pos,aft,none⟩::rest) e w Q :=
 TL.run (λ r hr=>by
  obtain ⟨es,c,h1,h2,h3,h4,h5⟩:=hm.find hk hkl
  rw [hf] at h2
  obtain ⟨j,e0,g1,g2,g3⟩:=h2
  simp [execOp,hr.eval hx,hr.eval hy,Instr.lookup,run_underlying ht.und,MapKept.run_getObj_map h1,(Maps.int_keyed hk.und).check w _ (mF hk hkl),g1,Result.andThen]) hd kk
theorem TL.lookupNo {t kt el m k:Nat} {x y:Operand} {f:Nat→Option Value} {z:Value} [ht:MapTy P t kt el] [hk:IntTy P kt .i64] [hz:Zero P el z] (hx:val e x=some (.map (some m))) (hy:val e y=some (.int .i64 (k:Int))) (hm:MapF w m f) (hf:f k=none) (hkl:k<9223372036854775808) (hd:Nat.blt d n=true)
  (kk:TL P n ops rest ((d,.tuple #[z,.bool false])::e) w Q):TL P n ops (⟨some d,.lookup t x y true,ty,pos,aft,none⟩::rest) e w Q :=
 TL.run (λ r hr=>by
  obtain ⟨es,c,h1,h2,h3,h4,h5⟩:=hm.find hk hkl
  rw [hf] at h2
  obtain ⟨g1,g2⟩:=h2
  simp [execOp,hr.eval hx,hr.eval hy,Instr.lookup,run_underlying ht.und,MapKept.run_getObj_map h1,(Maps.int_keyed hk.und).check w _ (mF hk hkl),g1,hz.run,Result.andThen]) hd kk
theorem TL.lookup1 {t kt el m k:Nat} {x y:Operand} {f:Nat→Option Value} {v:Value} [ht:MapTy P t kt el] [hk:IntTy P kt .i64] (hx:val e x=some (.map (some m))) (hy:val e y=some (.int .i64 (k:Int))) (hm:MapF w m f) (hf:f k=some v) (hkl:k<9223372036854775808) (hd:Nat.blt d n=true)
  (kk:TL P n ops rest ((d,v)::e) w Q):TL P n ops (⟨some d,.lookup t x y false,ty,pos,aft,none⟩::rest) e w Q :=
 TL.run (λ r hr=>by
  obtain ⟨es,c,h1,h2,h3,h4,h5⟩:=hm.find hk hkl
  rw [hf] at h2
  obtain ⟨j,e0,g1,g2,g3⟩:=h2
  simp [execOp,hr.eval hx,hr.eval hy,Instr.lookup,run_underlying ht.und,MapKept.run_getObj_map h1,(Maps.int_keyed hk.und).check w _ (mF hk hkl),g1,Result.andThen]) hd kk
def upF (f:Nat→Option Value) (k:Nat) (u:Value):Nat→Option Value:=λ j=>if j=k then some u else f j
theorem run_mapUpdate {t kt el m k:Nat} {f:Nat→Option Value} {u:Value} (ht:MapTy P t kt el) (hk:IntTy P kt .i64) (hm:MapF w m f) (hkl:k<9223372036854775808) :
  ∃ w',(Instr.mapUpdate t (.map (some m)) (.int .i64 (k:Int)) u).run P w=.ok () w'∧Upd m w w'∧MapF w' m (upF f k u):=by
 obtain ⟨es,c,h1,h2,h3,h4,h5⟩:=hm.find hk hkl
 have hlt:=(Array.getElem?_eq_some_iff.1 h1).1
 cases hf:f k with
 | none =>
  rw [hf] at h2
  obtain ⟨g1,g2⟩:=h2
  refine ⟨setBlock w m (.map (es.push ⟨.int .i64 (k:Int),u,c⟩) (c+1)),?_,⟨rfl,rfl,rfl,by simp [setBlock],λ i hi=>heap_setBlock_other h1 _ (λ e=>hi e)⟩,_,_,heap_setBlock_same h1 _,λ x hx=>?_,λ j v hj=>?_,?_⟩
  ·simp [Instr.mapUpdate,run_underlying ht.und,MapKept.run_getObj_map h1,(Maps.int_keyed hk.und).check w _ (mF hk hkl),g1,MapKept.run_setObj_map _ h1,Result.andThen,setBlock]
  ·simp only [Array.toList_push,List.mem_append,List.mem_singleton] at hx
   rcases hx with hx|rfl
   ·obtain ⟨i,hi,e1,e2⟩:=h3 x hx
    refine ⟨i,hi,e1,?_⟩
    unfold upF
    rw [if_neg (λ e=>g2 x hx (by rw [e1,e])),e2]
   ·exact ⟨k,hkl,rfl,by simp [upF]⟩
  ·unfold upF at hj
   split at hj
   ·rename_i he
    subst he
    exact ⟨⟨.int .i64 (j:Int),u,c⟩,by simp,rfl⟩
   ·obtain ⟨x,hx,e1⟩:=h4 j v hj
    exact ⟨x,by simp [hx],e1⟩
  ·rw [Array.toList_push]
   refine ⟨List.pairwise_append.2 ⟨h5.keys,by simp,λ x hx y hy=>by simp only [List.mem_singleton] at hy;subst hy;exact g2 x hx⟩,λ x hx=>?_,List.pairwise_append.2 ⟨h5.born,by simp,λ x hx y hy=>by simp only [List.mem_singleton] at hy;subst hy;exact h5.lt x hx⟩⟩
   simp only [List.mem_append,List.mem_singleton] at hx
   rcases hx with hx|rfl
   ·have:=h5.lt x hx;omega
   ·exact Nat.lt_succ_self _
 | some v0 =>
  rw [hf] at h2
  obtain ⟨j,e0,g1,g2,g3⟩:=h2
  have g2':es[j]? = some e0:=by simpa using g2
  refine ⟨setBlock w m (.map (es.modify j λ e=>{ e with key:=.int .i64 (k:Int),val:=u }) c),?_,⟨rfl,rfl,rfl,by simp [setBlock],λ i hi=>heap_setBlock_other h1 _ (λ e=>hi e)⟩,_,_,heap_setBlock_same h1 _,λ x hx=>?_,λ i v hi=>?_,?_⟩
  ·simp [Instr.mapUpdate,run_underlying ht.und,MapKept.run_getObj_map h1,(Maps.int_keyed hk.und).check w _ (mF hk hkl),g1,g2',g3,(Maps.int_keyed hk.und).stays w (mF hk hkl),MapKept.run_setObj_map _ h1,Result.andThen,setBlock]
  ·obtain ⟨i,hi,rfl⟩:=List.mem_iff_getElem.1 hx
   have hi':i<es.size:=by simpa using hi
   have ei:(es.modify j λ e=>{ e with key:=.int .i64 (k:Int),val:=u }).toList[i]=if j=i then { es[i] with key:=.int .i64 (k:Int),val:=u } else es[i]:=by
    simp [List.getElem_modify]
   rw [ei]
   by_cases hji:j=i
   ·rw [if_pos hji]
    exact ⟨k,hkl,rfl,by simp [upF]⟩
   ·rw [if_neg hji]
    obtain ⟨n,hn,e1,e2⟩:=h3 es[i] (by simp)
    refine ⟨n,hn,e1,?_⟩
    unfold upF
    rw [if_neg ?_,e2]
    intro e
    subst e
    have hj':=List.getElem?_eq_some_iff.1 g2
    obtain ⟨hjl,hje⟩:=hj'
    have hp:=List.pairwise_iff_getElem.1 h5.keys
    have hil:i<es.toList.length:=by simpa using hi'
    have ek:es.toList[i].key=e0.key:=by rw [g3];simpa using e1
    rcases Nat.lt_or_gt_of_ne hji with h|h
    ·exact hp j i hjl hil h (by rw [hje,ek])
    ·exact hp i j hil hjl h (by rw [hje,ek])
  ·have hmem:∀ x∈es.toList,∃ y∈(es.modify j λ e=>{ e with key:=.int .i64 (k:Int),val:=u }).toList,y.key=x.key:=by
    intro x hx
    obtain ⟨i,hi,rfl⟩:=List.mem_iff_getElem.1 hx
    have hi':i<es.size:=by simpa using hi
    refine ⟨(es.modify j λ e=>{ e with key:=.int .i64 (k:Int),val:=u }).toList[i]'(by simpa using hi'),List.getElem_mem _,?_⟩
    have ei:(es.modify j λ e=>{ e with key:=.int .i64 (k:Int),val:=u }).toList[i]'(by simpa using hi')=if j=i then { es[i] with key:=.int .i64 (k:Int),val:=u } else es[i]:=by
     simp [List.getElem_modify]
    rw [ei]
    by_cases hji:j=i
    ·rw [if_pos hji]
     subst hji
     have:=(List.getElem?_eq_some_iff.1 g2).2
     rw [this,g3]
    ·rw [if_neg hji];simp
   unfold upF at hi
   split at hi
   ·rename_i he
    obtain ⟨y,hy,e1⟩:=hmem e0 (List.mem_of_getElem? g2)
    exact ⟨y,hy,by rw [e1,g3,he]⟩
   ·obtain ⟨x,hx,e1⟩:=h4 i v hi
    obtain ⟨y,hy,e2⟩:=hmem x hx
    exact ⟨y,hy,by rw [e2,e1]⟩
  ·have hkeys:(es.modify j λ e=>{ e with key:=.int .i64 (k:Int),val:=u }).toList.map (·.key)=es.toList.map (·.key):=by
    apply List.ext_getElem
    ·simp
    ·intro i h1' h2'
     have hi':i<es.size:=by simpa using h2'
     simp only [List.getElem_map]
     have ei:(es.modify j λ e=>{ e with key:=.int .i64 (k:Int),val:=u }).toList[i]'(by simpa using hi')=if j=i then { es[i] with key:=.int .i64 (k:Int),val:=u } else es[i]:=by
      simp [List.getElem_modify]
     rw [ei]
     by_cases hji:j=i
     ·rw [if_pos hji]
      subst hji
      have:=(List.getElem?_eq_some_iff.1 g2).2
      rw [this,g3]
     ·rw [if_neg hji];simp
   have h6:(es.toList.map (·.key)).Pairwise (·≠·):=List.pairwise_map.2 h5.keys
   rw [← hkeys] at h6
   have hborn:(es.modify j λ e=>{ e with key:=.int .i64 (k:Int),val:=u }).toList.map (·.born)=es.toList.map (·.born):=by
    apply List.ext_getElem
    ·simp
    ·intro i h1' h2'
     have hi':i<es.size:=by simpa using h2'
     simp only [List.getElem_map]
     have ei:(es.modify j λ e=>{ e with key:=.int .i64 (k:Int),val:=u }).toList[i]'(by simpa using hi')=if j=i then { es[i] with key:=.int .i64 (k:Int),val:=u } else es[i]:=by
      simp [List.getElem_modify]
     rw [ei]
     by_cases hji:j=i
     ·rw [if_pos hji];simp
     ·rw [if_neg hji];simp
   have h7:(es.toList.map (·.born)).Pairwise (· < ·):=List.pairwise_map.2 h5.born
   rw [← hborn] at h7
   refine ⟨List.pairwise_map.1 h6,λ x hx=>?_,List.pairwise_map.1 h7⟩
   have hx2:=List.mem_map_of_mem (f:=λ x:MapEntry=>x.born) hx
   rw [hborn] at hx2
   obtain ⟨y,hy,e⟩:=List.mem_map.1 hx2
   rw [← e]
   exact h5.lt y hy
theorem TL.updateF {t kt el m k:Nat} {x y v:Operand} {f:Nat→Option Value} {u:Value} [ht:MapTy P t kt el] [hk:IntTy P kt .i64] (hx:val e x=some (.map (some m))) (hy:val e y=some (.int .i64 (k:Int))) (hv:val e v=some u) (hm:MapF w m f) (hkl:k<9223372036854775808)
  (kk:∀ w',Upd m w w'→MapF w' m (upF f k u)→TL P n ops rest e w' Q):TL P n ops (⟨none,.mapUpdate t x y v,ty,pos,aft,none⟩::rest) e w Q:=by
 obtain ⟨w',h1,h2,h3⟩:=run_mapUpdate (u:=u) ht hk hm hkl
 exact TL.run_skip (w':=w') (λ r hr=>by simp [execOp,hr.eval hx,hr.eval hy,hr.eval hv,h1]) (kk w' h2 h3)
end
end Go.V
namespace Go.V
open Go Go.RowKit
section
variable [Rn]
variable {P:Program} {n:Nat} {e:dN} {w w':World} {Q:dO} {ops:Array Oper} {rest:List Oper} {d:Nat} {ty:TypeId} {pos:String} {aft:Array Edge}
theorem TL.copyB {t t' elem bytes:Nat} {x y:Operand} {b o m c k c':Nat} {bt:TypeId} {a:Option Addr} {F:Nat→Prop} {cs news:List Value} [ht:SliceTy P t elem 1 bytes] (hx:val e x=some (.slice (some ⟨b,o,none⟩) m c)) (hy:val e y=some (.slice a k c'))
  (hb:Blk w b bt cs) (hs:Sl F w 1 a k c' news) (h1:∀ u∈news,u.oneCell'=true) (ho:o+min k m≤cs.length) (hd:Nat.blt d n=true)
  (kk:∀ w',Upd b w w'→Blk w' b bt (jD cs o (news.take (min k m)))→w'.heap.size=w.heap.size→TL P n ops rest ((d,.int .i64 ((min k m:Nat):Int))::e) w' Q) :
  TL P n ops (⟨some d,.call ⟨.builtin .copy,#[x,y],#[t,t']⟩,ty,pos,aft,none⟩::rest) e w Q:=by
 have hl:=hs.len
 rw [Nat.mul_one] at hl
 have hnl:(news.take (min k m)).length=min k m:=by rw [List.length_take,hl];omega
 obtain ⟨w',hst,hu,hbk⟩:=iV (P:=P) (t:=bt) (news.take (min k m)) o 0 cs w hb (by rw [hnl];omega) (λ u hu=>h1 u (List.mem_of_mem_take hu))
 have hfc:(Builtin.firstCells 1 (min k m) (.slice a k c')).run P w=.ok (news.take (min k m)).toArray w:=by
  cases a with
  | none =>
   have:=hs.nil rfl
   have:=hs.cap
   have h0:k=0:=by omega
   subst h0
   simp [Builtin.firstCells,loadCells,loadCellsFrom]
  | some ad =>
   have hcells:∀ j v,(news.take (min k m))[j]? = some v→w.cell? (ad.add j)=some v:=λ j v hj=>by
    rw [List.getElem?_take] at hj
    split at hj
    ·exact hs.row.cell_add rfl j v hj
    ·cases hj
   have:=lJ (P:=P) (w:=w) (p:=ad) (min k m) 0 (news.take (min k m)) #[] hnl (by simpa using hcells)
   simp [Builtin.firstCells,loadCells,this]
 refine TL.run (v:=.int .i64 ((min k m:Nat):Int)) (w':=w') (λ r hr=>?_) hd (kk w' hu hbk hu.size)
 have hmin:Nat.min k m=min k m:=rfl
 simp [execOp,resolve,invoke,builtin,hr.eval hx,hr.eval hy,Builtin.copy_,run_underlying ht.und,Builtin.lenOf,ht.size,hmin,hfc,hst,goInt]
theorem TL.arrayAt {t len elem size:Nat} {x:Operand} {a:Option Addr} {m c:Nat} [ht:ArrTy P t len elem size] (hx:val e x=some (.slice a m c)) (hm:len≤m) (hd:Nat.blt d n=true)
  (k:TL P n ops rest ((d,.pointer a)::e) w Q):TL P n ops (⟨some d,.sliceToArrayPointer t x,ty,pos,aft,none⟩::rest) e w Q :=
 TL.run (λ r hr=>by simp [execOp,hr.eval hx,Instr.arrayAt,underlying,ht.und.1,Nat.not_lt.2 hm]) hd k
theorem TL.makeAll {t elem size bytes c:Nat} {x y:Operand} {kl kc:IntKind} {z:Value} [ht:SliceTy P t elem size bytes] [hz:Zero P elem z] (hx:val e x=some (.int kl (c:Int))) (hy:val e y=some (.int kc (c:Int)))
  (hbytes:bytes*c≤281474976710656) (h63:c≤maxLen) (hd:Nat.blt d n=true)
  (k:∀ b w',w.heap.size=b→w'.ownsRow w.heap.size elem size (.slice (some ⟨b,0,none⟩) c c) c (madeCells z.cells (c*size)).toList→Grow w w'→TL P n ops rest ((d,.slice (some ⟨b,0,none⟩) c c)::e) w' Q) :
  TL P n ops (⟨some d,.makeSlice t x y,ty,pos,aft,none⟩::rest) e w Q:=by
 obtain ⟨i,z',hi,hsz,hby,hz',hzs,hne⟩:=ht.info
 have hzz:z'=z:=by
  have:=hz.h
  rw [hi] at this
  simp only [Option.bind_some,hz',Option.some.injEq] at this
  exact this
 subst hby
 subst hzz
 obtain ⟨w',hrun,h2,h3⟩:=run_make_full (P:=P) w w.heap.size t elem i z' size ht.und hi hz' hsz kl kc c hbytes h63 (Nat.le_refl _)
 refine TL.run (v:=.slice (some ⟨w.heap.size,0,none⟩) c c) (w':=w') (λ r hr=>?_) hd (k _ _ rfl h2 (Grow.mk ⟨h3.os,h3.tape,h3.output,h3.size,λ k hk=>h3.block k hk (by simp)⟩))
 simp [execOp,hr.eval hx,hr.eval hy,hrun]
theorem kI {t:TypeId} {x y:Operand} {b:Bool} {d:Option Nat} (h:TL P n ops (⟨d,.lookup t x y b,ty,pos,aft,none⟩::rest) e w Q):TL P n ops (⟨d,.lookup t x y b,ty,pos,aft,none⟩::rest) e w Q:=h
theorem TL.isMapUp {t:TypeId} {x y z:Operand} {d:Option Nat} (h:TL P n ops (⟨d,.mapUpdate t x y z,ty,pos,aft,none⟩::rest) e w Q):TL P n ops (⟨d,.mapUpdate t x y z,ty,pos,aft,none⟩::rest) e w Q:=h
theorem kX {t:TypeId} {x:Option Operand} {d:Option Nat} (h:TL P n ops (⟨d,.makeMap t x,ty,pos,aft,none⟩::rest) e w Q):TL P n ops (⟨d,.makeMap t x,ty,pos,aft,none⟩::rest) e w Q:=h
end
end Go.V
namespace Go.V
open Go Go.RowKit
structure AFact (SA:World→World→Prop) where
 G:Fact
 st:∀ v lo hi w w',Grow w w'→G v lo hi w→G v lo hi w'
 firm:Bool:=false
 fm:firm=true→∀ v lo hi w w',SA w w'→G v lo hi w→G v lo hi w':=by intro h;cases h
section any
variable {SA:World→World→Prop}
def afAt:List (AFact SA)→Nat→Fact
 | [],_=>λ _ _ _ _=>True
 | g::_,0=>g.G
 | _::gs,i+1=>afAt gs i
def afFirm:List (AFact SA)→Nat→Bool
 | [],_=>true
 | g::_,0=>g.firm
 | _::gs,i+1=>afFirm gs i
theorem afAt_keep:∀ (Gs:List (AFact SA)) (i:Nat) (v:Value) (lo hi:Nat) (w w':World),Grow w w'→afAt Gs i v lo hi w→afAt Gs i v lo hi w'
 | [],_,_,_,_,_,_,_,_=>trivial
 | g::_,0,v,lo,hi,w,w',hg,h=>g.st v lo hi w w' hg h
 | _::gs,i+1,v,lo,hi,w,w',hg,h=>afAt_keep gs i v lo hi w w' hg h
theorem afAt_firm:∀ (Gs:List (AFact SA)) (i:Nat) (v:Value) (lo hi:Nat) (w w':World),afFirm Gs i=true→SA w w'→afAt Gs i v lo hi w→afAt Gs i v lo hi w'
 | [],_,_,_,_,_,_,_,_,_=>trivial
 | g::_,0,v,lo,hi,w,w',hf,hg,h=>g.fm hf v lo hi w w' hg h
 | _::gs,i+1,v,lo,hi,w,w',hf,hg,h=>afAt_firm gs i v lo hi w w' hf hg h
def NeedA (l:List Oper) (Gs:List (AFact SA)) (w:World) (lo hi:Nat→Nat) (K:dN→Prop):List Nat→dN→Prop
 | [],acc=>K acc
 | j::js,acc=>∀ v,afAt Gs j v (lo j) (hi j) w→NeedA l Gs w lo hi K js ((fK l j,v)::acc)
theorem needA_env {l:List Oper} {Gs:List (AFact SA)} {w:World} {lo hi:Nat→Nat} {K:dN→Prop} {vs:Nat→Value}:∀ {js:List Nat} {acc:dN},NeedA l Gs w lo hi K js acc→(∀ j∈js,afAt Gs j (vs j) (lo j) (hi j) w) →
  ∃ acc',K acc'∧∀ t v,find acc' t=some v→(∃ j,j∈js∧t=fK l j∧v=vs j)∨find acc t=some v
 | [],acc,h,_=>⟨acc,h,λ t v hv=>Or.inr hv⟩
 | j::js,acc,h,hf=>by
  obtain ⟨acc',hk,hfd⟩:=needA_env (vs:=vs) (js:=js) (h (vs j) (hf j (by simp))) (λ x hx=>hf x (by simp [hx]))
  refine ⟨acc',hk,λ t v hv=>?_⟩
  rcases hfd t v hv with ⟨x,hx,h1,h2⟩|h1
  ·exact Or.inl ⟨x,by simp [hx],h1,h2⟩
  ·rw [fP] at h1
   split at h1
   ·rename_i hd
    cases h1
    exact Or.inl ⟨j,by simp,hd.symm,rfl⟩
   ·exact Or.inr h1
def oneA (d:Nat) (G:Fact) (R:World→World→Prop) (w:World):dO:=λ x e' w' =>
 match x with
 | .normal=>∃ v,find e' d=some v∧R w w'∧G v w.heap.size w'.heap.size w'
 | _=>False
def DoesA [Rn] (P:Program) (n:Nat) (l:List Oper) (e:dN) (I0 I1 Iw:World→Prop) (Gs:List (AFact SA)) (A i:Nat):Prop :=
 match l[i]? with
 | none=>True
 | some o=>match Nat.beq i A with
  | true=>∀ w lo hi,I0 w→NeedA l Gs w lo hi (λ acc=>TL P n l.toArray [o] acc w (oneA (fK l i) (afAt Gs i) (λ w w'=>SA w w'∧I1 w') w)) (kQ (cD o)) e
  | false=>∀ w lo hi,Iw w→NeedA l Gs w lo hi (λ acc=>TL P n l.toArray [o] acc w (oneA (fK l i) (afAt Gs i) Grow w)) (kQ (cD o)) e
def AllA [Rn] (P:Program) (n:Nat) (l:List Oper) (e:dN) (I0 I1 Iw:World→Prop) (Gs:List (AFact SA)) (A:Nat):Nat→Nat→Prop
 | _,0=>True
 | i,k+1=>DoesA P n l e I0 I1 Iw Gs A i∧AllA P n l e I0 I1 Iw Gs A (i+1) k
theorem allA_at [Rn] {P:Program} {n:Nat} {l:List Oper} {e:dN} {I0 I1 Iw:World→Prop} {Gs:List (AFact SA)} {A:Nat}:∀ {k i:Nat},AllA P n l e I0 I1 Iw Gs A i k→∀ j,i≤j→j<i+k→DoesA P n l e I0 I1 Iw Gs A j
 | 0,_,_,j,h1,h2=>by omega
 | k+1,i,h,j,h1,h2=>by
  by_cases hj:j=i
  ·subst hj;exact h.1
  ·exact allA_at h.2 j (by omega) (by omega)
def lateB (l:List Oper) (A:Nat):Nat→Nat→Bool
 | 0,_=>false
 | f+1,j=>match l[j]? with
  | some o=>(cD o).any λ x=>Nat.beq x A || lateB l A f x
  | none=>false
def lateOk (l:List Oper) (Gs:List (AFact SA)) (A N:Nat):Bool:=(mT 0 N).all λ j=>afFirm Gs j || Nat.beq j A || lateB l A N j
structure MidA [Rn] (n:Nat) (l:List Oper) (e:dN) (b0:Nat) (I0 I1 Iw:World→Prop) (Gs:List (AFact SA)) (N A:Nat) (listed:Array Bool) (a:Act) (w:World) (vs:Nat→Value) (lo hi:Nat→Nat):Prop where
 size:listed.size=l.length
 before:listed.getD A false=false→I0 w
 behind:listed.getD A false=true→I1 w
 defers:a.defers=Rn.ds
 tmps:a.tmps.size=n
 get:∀ t v,find e t=some v→a.tmps.getD t undef=v
 did:∀ i,i<N→listed.getD i false=true→afAt Gs i (vs i) (lo i) (hi i) w∧a.tmps.getD (fK l i) undef=vs i
 span:∀ i,i<N→listed.getD i false=true→b0≤lo i∧lo i≤hi i∧hi i≤w.heap.size
 apart:∀ i j,i<N→j<N→i≠j→listed.getD i false=true→listed.getD j false=true→hi i≤lo j∨hi j≤lo i
 rest:∀ i,N≤i→listed.getD i false=false
 closed:∀ j o,l[j]? = some o→listed.getD j false=true→∀ x∈cD o,listed.getD x false=true
theorem MidA.iw [Rn] {n:Nat} {l:List Oper} {e:dN} {b0:Nat} {I0 I1 Iw:World→Prop} {Gs:List (AFact SA)} {N A:Nat} {listed:Array Bool} {a:Act} {w:World} {vs:Nat→Value} {lo hi:Nat→Nat} (m:MidA n l e b0 I0 I1 Iw Gs N A listed a w vs lo hi) (h0:∀ w,I0 w→Iw w) (h1:∀ w,I1 w→Iw w):Iw w:=by
 cases hA:listed.getD A false with
 | false=>exact h0 w (m.before hA)
 | true=>exact h1 w (m.behind hA)
theorem late_listed {l:List Oper} {A:Nat} {listed:Array Bool} (hc:∀ j o,l[j]? = some o→listed.getD j false=true→∀ x∈cD o,listed.getD x false=true):∀ (f j:Nat),lateB l A f j=true→listed.getD j false=true→listed.getD A false=true
 | 0,_,h,_=>by cases h
 | f+1,j,h,hj=>by
  unfold lateB at h
  split at h
  ·rename_i o ho
   obtain ⟨x,hx,hb⟩:=List.any_eq_true.1 h
   have hxl:=hc j o ho hj x hx
   simp only [Bool.or_eq_true] at hb
   rcases hb with hb|hb
   ·rw [Nat.eq_of_beq_eq_true hb] at hxl;exact hxl
   ·exact late_listed hc f x hb hxl
  ·cases h
variable [Rn]
variable {P:Program} {n:Nat} {l:List Oper} {e:dN} {b0:Nat} {I0 I1 Iw:World→Prop} {Gs:List (AFact SA)} {N A:Nat} {Q:dO}
theorem anyA_runs (hA:A<N) (hN:N≤l.length) (hsink:N<l.length→∀ i,i<N→∃ j o,i<j∧j≤N∧l[j]? = some o∧i∈cD o)
  (h01:∀ w,I0 w→Iw w) (h11:∀ w,I1 w→Iw w) (hb0:∀ w,Iw w→b0≤w.heap.size) (hg0:∀ w w',I0 w→Grow w w'→I0 w') (hg1:∀ w w',I1 w→Grow w w'→I1 w') (hSA:∀ w w',SA w w'→w.heap.size≤w'.heap.size)
  (hlate:lateOk l Gs A N=true)
  (hh:∀ i,i<N→HeadAt l e n i) (ht:∀ j,N≤j→j<l.length→∃ o,l[j]? = some o∧(∀ x∈cD o,x<j)∧(j=N∨j-1∈cD o))
  (hdo:∀ i,i<N→DoesA P n l e I0 I1 Iw Gs A i)
  (htail:∀ w (lo hi:Nat→Nat) (vs:Nat→Value),I1 w→(∀ i,i<N→b0≤lo i∧lo i≤hi i∧hi i≤w.heap.size)→(∀ i j,i<N→j<N→i≠j→hi i≤lo j∨hi j≤lo i)→(∀ j,j<N→afAt Gs j (vs j) (lo j) (hi j) w) →
   ∃ acc,TL P n l.toArray (l.drop N) acc w Q∧∀ t v,find acc t=some v→(∃ j,j<N∧t=fK l j∧v=vs j)∨find e t=some v) :
  ∀ (m:Nat) (listed:Array Bool) (a:Act) (w:World) (vs:Nat→Value) (lo hi:Nat→Nat) (f:Nat),MidA n l e b0 I0 I1 Iw Gs N A listed a w vs lo hi →
   ((List.range N).filter λ i=>!(listed.getD i false)).length=m→f=m+(l.length-N)→wpAnyIn (FR Rn.ro) 0 P .any l.toArray (iQ n Q) f listed a w:=by
 intro m
 induction m with
 | zero =>
  intro listed a w vs lo hi f mid hm hf
  have hall:∀ i,i<N→listed.getD i false=true:=by
   intro i hi
   have:=List.eq_nil_of_length_eq_zero hm
   have h2:=List.eq_nil_iff_forall_not_mem.1 this i
   simp only [List.mem_filter,List.mem_range,not_and,Bool.not_eq_true',Bool.not_eq_false] at h2
   exact h2 hi
  refine mW ht f N listed a w (by omega) (Nat.le_refl _) mid.size hall (λ x hx hx2=>?_) ?_
  ·have:=mid.rest x hx
   rw [Array.getD_eq_getD_getElem?] at this ⊢
   cases hy:listed[x]? with
   | none=>rw [Array.getElem?_eq_none_iff] at hy;have:=mid.size;omega
   | some b=>simpa [hy] using this
  ·obtain ⟨acc,hk,hfind⟩:=htail w lo hi vs (mid.behind (hall A hA)) (λ i hi'=>mid.span i hi' (hall i hi')) (λ i j h1 h2 h3=>mid.apart i j h1 h2 h3 (hall i h1) (hall j h2)) (λ j hj=>(mid.did j hj (hall j hj)).1)
   refine hk.out ⟨mid.defers,mid.tmps,λ t v hv=>?_⟩
   rcases hfind t v hv with ⟨j,hj,rfl,rfl⟩|h3
   ·exact (mid.did j hj (hall j hj)).2
   ·exact mid.get t v h3
 | succ m ih =>
  intro listed a w vs lo hi f mid hm hf
  have hopen:∃ i,i<N∧listed.getD i false=false:=by
   have hne:((List.range N).filter λ i=>!(listed.getD i false))≠[]:=by intro h0;rw [h0] at hm;simp at hm
   obtain ⟨i,hi⟩:=List.exists_mem_of_ne_nil _ hne
   simp only [List.mem_filter,List.mem_range,Bool.not_eq_true'] at hi
   exact ⟨i,hi.1,hi.2⟩
  obtain ⟨f',rfl⟩:∃ f',f=f'+1:=⟨f-1,by omega⟩
  have hready:∀ j,j∈Region.ready .any l.toArray listed→j<N∧listed.getD j false=false:=by
   intro j hj
   obtain ⟨h3,o,h4,h5⟩:=dH.1 hj
   have hlt:j<l.length:=(List.getElem?_eq_some_iff.1 h4).1
   have hf2:listed.getD j false=false:=by
    rw [Array.getD_eq_getD_getElem?] at h3 ⊢
    cases hx:listed[j]? with
    | none=>simp
    | some b=>simpa [hx] using h3
   refine ⟨?_,hf2⟩
   rcases Nat.lt_or_ge j N with h|h
   ·exact h
   ·exfalso
    obtain ⟨o2,h6,_,h7⟩:=ht j h hlt
    rw [h4] at h6
    cases h6
    obtain ⟨i,hi,hi0⟩:=hopen
    by_cases hjN:j=N
    ·subst hjN
     have key:∀ k i,j-i≤k→i<j→listed.getD i false=false→False:=by
      intro k
      induction k with
      | zero=>intro i h1 h2;omega
      | succ k ihk =>
       intro i h1 h2 hl
       obtain ⟨x,o3,hx1,hx2,hx3,hx4⟩:=hsink hlt i h2
       by_cases hxj:x=j
       ·subst hxj
        rw [h4] at hx3
        cases hx3
        have:=h5 i hx4
        rw [hl] at this
        cases this
       ·refine ihk x (by omega) (by omega) ?_
        cases hv:listed.getD x false with
        | false=>rfl
        | true =>
         have:=mid.closed x o3 hx3 hv i hx4
         rw [hl] at this
         cases this
     exact key _ i (Nat.le_refl _) hi hi0
    ·have h8:=h5 (j-1) (h7.resolve_left hjN)
     rw [mid.rest (j-1) (by omega)] at h8
     cases h8
  have hsome:Region.ready .any l.toArray listed≠[]:=by
   have key:∀ k i,i≤k→i<N→listed.getD i false=false→∃ j,j∈Region.ready .any l.toArray listed:=by
    intro k
    induction k with
    | zero =>
     intro i hi hiN hl
     obtain ⟨o,d,ho,_,_,_,_,hdeps⟩:=(hh i hiN).ex
     refine ⟨i,dH.2 ⟨?_,o,ho,λ x hx=>?_⟩⟩
     ·rw [Array.getD_eq_getD_getElem?] at hl ⊢
      cases hx:listed[i]? with
      | none=>rw [Array.getElem?_eq_none_iff] at hx;have:=mid.size;omega
      | some b=>simpa [hx] using hl
     ·have:=hdeps x hx;omega
    | succ k ihk =>
     intro i hi hiN hl
     obtain ⟨o,d,ho,_,_,_,_,hdeps⟩:=(hh i hiN).ex
     by_cases hx:∃ x∈cD o,listed.getD x false=false
     ·obtain ⟨x,hx1,hx2⟩:=hx
      have:=hdeps x hx1
      exact ihk x (by omega) (by omega) hx2
     ·refine ⟨i,dH.2 ⟨?_,o,ho,λ x hx1=>?_⟩⟩
      ·rw [Array.getD_eq_getD_getElem?] at hl ⊢
       cases hx:listed[i]? with
       | none=>rw [Array.getElem?_eq_none_iff] at hx;have:=mid.size;omega
       | some b=>simpa [hx] using hl
      ·cases hv:listed.getD x false with
       | true=>rfl
       | false=>exact absurd ⟨x,hx1,hv⟩ hx
   have hne:((List.range N).filter λ i=>!(listed.getD i false))≠[]:=by intro h0;rw [h0] at hm;simp at hm
   obtain ⟨i,hi⟩:=List.exists_mem_of_ne_nil _ hne
   simp only [List.mem_filter,List.mem_range,Bool.not_eq_true'] at hi
   obtain ⟨j,hj⟩:=key i i (Nat.le_refl _) hi.1 hi.2
   intro h0
   rw [h0] at hj
   cases hj
  refine ⟨λ h0=>absurd h0 hsome,λ i hir=>?_⟩
  obtain ⟨hiN,hil⟩:=hready i hir
  obtain ⟨_,o,ho,hdl⟩:=dH.1 hir
  obtain ⟨o',d,ho',hd,hdn,hdf,hdd,hdeps⟩:=(hh i hiN).ex
  rw [ho] at ho'
  cases ho'
  have hdst:fK l i=d:=by simp [fK,ho,hd]
  have hdo':=hdo i hiN
  unfold DoesA at hdo'
  simp only [ho] at hdo'
  have hiw:=mid.iw h01 h11
  have hdeps':∀ j∈kQ (cD o),afAt Gs j (vs j) (lo j) (hi j) w:=λ j hj=>(mid.did j (by have:=hdeps j (fF.1 hj);omega) (hdl j (fF.1 hj))).1
  obtain ⟨acc,hk,hfind⟩:∃ acc,TL P n l.toArray [o] acc w (oneA (fK l i) (afAt Gs i) (λ w w'=>match Nat.beq i A with|true=>SA w w'∧I1 w'|false=>Grow w w') w)∧∀ t v,find acc t=some v→(∃ j,j∈kQ (cD o)∧t=fK l j∧v=vs j)∨find e t=some v:=by
   cases hb:Nat.beq i A with
   | true =>
    rw [hb] at hdo'
    have hiA:=Nat.eq_of_beq_eq_true hb
    exact needA_env (vs:=vs) (hdo' w lo hi (mid.before (by rw [← hiA];exact hil))) hdeps'
   | false =>
    rw [hb] at hdo'
    exact needA_env (vs:=vs) (hdo' w lo hi hiw) hdeps'
  have hfit:Fits n acc a:=⟨mid.defers,mid.tmps,λ t v hv=>by
   rcases hfind t v hv with ⟨j,hj,rfl,rfl⟩|h3
   ·exact (mid.did j (by have:=hdeps j (fF.1 hj);omega) (hdl j (fF.1 hj))).2
   ·exact mid.get t v h3⟩
  have hrun:=hk.out hfit
  unfold wpOpIn
  rw [show l.toArray[i]? = some o by simpa using ho]
  simp only
  have hnext:∀ a' w',iQ n (oneA (fK l i) (afAt Gs i) (λ w w'=>match Nat.beq i A with|true=>SA w w'∧I1 w'|false=>Grow w w') w) .normal a' w'→(∃ v,a'.tmps=(a.put o.dst v).tmps)→wpAnyIn (FR Rn.ro) 0 P .any l.toArray (iQ n Q) f' (listed.setIfInBounds i true) a' w':=by
   rintro a' w' ⟨e',he',v,hv,hg,hG⟩ ⟨u,hu⟩
   rw [hdst] at hv
   have hva:a'.tmps.getD d undef=v:=he'.get d v hv
   rw [hu,hd] at hva
   have hds:d<a.tmps.size:=by rw [mid.tmps];exact hdn
   rw [jK hds,if_pos rfl] at hva
   subst hva
   have hother:∀ t,t≠d→a'.tmps.getD t undef=a.tmps.getD t undef:=λ t ht=>by
    rw [hu,hd,jK hds,if_neg (λ h=>ht h.symm)]
   have hws:w.heap.size≤w'.heap.size:=by
    cases hb:Nat.beq i A with
    | true=>rw [hb] at hg;exact hSA _ _ hg.1
    | false=>rw [hb] at hg;exact hg.size
   have hsz:i<listed.size:=by rw [mid.size];exact (List.getElem?_eq_some_iff.1 ho).1
   have hAl:∀ b,(listed.setIfInBounds i true).getD A false=b→i≠A→listed.getD A false=b:=λ b h hne=>by
    rwa [Array.getD_eq_getD_getElem?,Array.getElem?_setIfInBounds_ne hne,← Array.getD_eq_getD_getElem?] at h
   refine ih (listed.setIfInBounds i true) a' w' (λ j=>if j=i then u else vs j) (λ j=>if j=i then w.heap.size else lo j) (λ j=>if j=i then w'.heap.size else hi j) f' ⟨by simp [mid.size],λ h=>?_,λ h=>?_,he'.defers,he'.size,λ t v hv=>?_,λ j hj hjl=>?_,λ j hj hjl=>?_,λ j k hj hk hjk hjl hkl=>?_,λ j hj=>?_,λ j oj hoj hjl x hx=>?_⟩ ?_ (by omega)
   ·cases hb:Nat.beq i A with
    | true =>
     have hiA:=Nat.eq_of_beq_eq_true hb
     rw [← hiA] at h
     simp [Array.getD_eq_getD_getElem?,hsz] at h
    | false =>
     rw [hb] at hg
     exact hg0 _ _ (mid.before (hAl _ h (Nat.ne_of_beq_eq_false hb))) hg
   ·cases hb:Nat.beq i A with
    | true=>rw [hb] at hg;exact hg.2
    | false =>
     rw [hb] at hg
     exact hg1 _ _ (mid.behind (hAl _ h (Nat.ne_of_beq_eq_false hb))) hg
   ·have htd:t≠d:=λ h=>by rw [h,hdf] at hv;cases hv
    rw [hother t htd]
    exact mid.get t v hv
   ·by_cases hji:j=i
    ·subst hji
     simp only [if_true]
     refine ⟨hG,?_⟩
     rw [hdst,hu,hd,jK hds,if_pos rfl]
    ·simp only [if_neg hji]
     have hjl':listed.getD j false=true:=by
      rwa [Array.getD_eq_getD_getElem?,Array.getElem?_setIfInBounds_ne (λ h=>hji h.symm),← Array.getD_eq_getD_getElem?] at hjl
     obtain ⟨h1,h2⟩:=mid.did j hj hjl'
     refine ⟨?_,?_⟩
     ·cases hb:Nat.beq i A with
      | false =>
       rw [hb] at hg
       exact afAt_keep Gs j _ _ _ w w' hg h1
      | true =>
       rw [hb] at hg
       have hiA:=Nat.eq_of_beq_eq_true hb
       have hjo:=List.all_eq_true.1 hlate j (fE.2 ⟨Nat.zero_le _,by omega⟩)
       simp only [Bool.or_eq_true] at hjo
       rcases hjo with (hjo|hjo)|hjo
       ·exact afAt_firm Gs j _ _ _ w w' hjo hg.1 h1
       ·exact absurd ((Nat.eq_of_beq_eq_true hjo).trans hiA.symm) hji
       ·have:=late_listed mid.closed N j hjo hjl'
        rw [← hiA,hil] at this
        cases this
     have hne:fK l j≠d:=by
      rcases Nat.lt_or_ge j i with h|h
      ·exact hdd j h
      ·obtain ⟨oj,dj,hoj,hdj,_,_,hddj,_⟩:=(hh j hj).ex
       have h3:=hddj i (by omega)
       rw [hdst] at h3
       have:fK l j=dj:=by simp [fK,hoj,hdj]
       rw [this]
       exact λ h=>h3 h.symm
     rw [hother _ hne]
     exact h2
   ·by_cases hji:j=i
    ·subst hji;simp only [if_true];exact ⟨hb0 _ hiw,hws,Nat.le_refl _⟩
    ·have hjl':listed.getD j false=true:=by
      rwa [Array.getD_eq_getD_getElem?,Array.getElem?_setIfInBounds_ne (λ h=>hji h.symm),← Array.getD_eq_getD_getElem?] at hjl
     simp only [if_neg hji]
     have:=mid.span j hj hjl'
     omega
   ·have old:∀ x,x≠i→(listed.setIfInBounds i true).getD x false=true→listed.getD x false=true:=λ x hx h=>by
     rwa [Array.getD_eq_getD_getElem?,Array.getElem?_setIfInBounds_ne (λ h=>hx h.symm),← Array.getD_eq_getD_getElem?] at h
    by_cases hji:j=i
    ·by_cases hki:k=i
     ·omega
     ·simp only [if_pos hji,if_neg hki]
      have:=mid.span k hk (old k hki hkl)
      omega
    ·by_cases hki:k=i
     ·simp only [if_neg hji,if_pos hki]
      have:=mid.span j hj (old j hji hjl)
      omega
     ·simp only [if_neg hji,if_neg hki]
      exact mid.apart j k hj hk hjk (old j hji hjl) (old k hki hkl)
   ·rw [Array.getD_eq_getD_getElem?,Array.getElem?_setIfInBounds_ne (by omega),← Array.getD_eq_getD_getElem?]
    exact mid.rest j hj
   ·by_cases hxi:i=x
    ·subst hxi
     simp [Array.getD_eq_getD_getElem?,hsz]
    ·rw [Array.getD_eq_getD_getElem?,Array.getElem?_setIfInBounds_ne hxi,← Array.getD_eq_getD_getElem?]
     by_cases hji:i=j
     ·subst hji
      rw [ho] at hoj
      cases hoj
      exact hdl x hx
     ·rw [Array.getD_eq_getD_getElem?,Array.getElem?_setIfInBounds_ne hji,← Array.getD_eq_getD_getElem?] at hjl
      exact mid.closed j oj hoj hjl x hx
   ·
    have hcount:∀ (L:List Nat),L.Nodup→i∈L→(L.filter λ j=>!((listed.setIfInBounds i true).getD j false)).length+1=(L.filter λ j=>!(listed.getD j false)).length:=by
     intro L
     induction L with
     | nil=>intro _ h;cases h
     | cons x xs ihx =>
      intro hnd hmem
      rw [List.nodup_cons] at hnd
      by_cases hxi:x=i
      ·subst hxi
       have hsame:(xs.filter λ j=>!((listed.setIfInBounds x true).getD j false))=xs.filter λ j=>!(listed.getD j false):=by
        apply List.filter_congr
        intro y hy
        have hyx:x≠y:=λ h=>hnd.1 (h▸hy)
        rw [Array.getD_eq_getD_getElem?,Array.getElem?_setIfInBounds_ne hyx,← Array.getD_eq_getD_getElem?]
       have h1:(listed.setIfInBounds x true).getD x false=true:=by simp [Array.getD_eq_getD_getElem?,hsz]
       rw [List.filter_cons_of_neg (by simp [h1]),hsame,List.filter_cons_of_pos (by simp [hil])]
       simp
      ·have hmem':i∈xs:=by
        rcases List.mem_cons.1 hmem with h|h
        ·exact absurd h.symm hxi
        ·exact h
       have:=ihx hnd.2 hmem'
       have hx2:(listed.setIfInBounds i true).getD x false=listed.getD x false:=by
        rw [Array.getD_eq_getD_getElem?,Array.getElem?_setIfInBounds_ne (λ h=>hxi h.symm),← Array.getD_eq_getD_getElem?]
       cases hc:listed.getD x false with
       | true=>rw [List.filter_cons_of_neg (by simp [hx2,hc]),List.filter_cons_of_neg (by simp [hc])];exact this
       | false=>rw [List.filter_cons_of_pos (by simp [hx2,hc]),List.filter_cons_of_pos (by simp [hc])];simp only [List.length_cons];omega
    have:=hcount (List.range N) List.nodup_range (List.mem_range.2 hiN)
    omega
  unfold wpListIn at hrun
  split
  ·rename_i hw
   rw [if_pos hw] at hrun
   exact (Oper.wpIn_mono (λ a' w' hh=>hnext a' w' hh.1 hh.2) (wp_swap (wp_frame hrun) (λ x a w hx hq=>by
     refine (lift_no hq λ e0 w0 hq=>?_).elim
     cases x<;>first|exact absurd rfl hx|exact hq)))
  ·rename_i hw
   rw [if_neg hw] at hrun
   exact ⟨hrun.1,hnext _ _ hrun.2 ⟨undef,rfl⟩⟩
def isA (v:Value):AFact SA:=⟨λ u _ _ _=>u=v,λ _ _ _ _ _ _ h=>h,true,λ _ _ _ _ _ _ _ h=>h⟩
def ofA (R:Value→World→Prop) (h:∀ v w w',Grow w w'→R v w→R v w'):AFact SA:={ G:=λ v _ _ w=>R v w,st:=λ v _ _ w w' g=>h v w w' g }
theorem allA_end {i:Nat}:AllA P n l e I0 I1 Iw Gs A i 0:=trivial
theorem allA_cons {i k:Nat} (h:DoesA P n l e I0 I1 Iw Gs A i) (hs:AllA P n l e I0 I1 Iw Gs A (i+1) k):AllA P n l e I0 I1 Iw Gs A i (k+1):=⟨h,hs⟩
theorem kF {i d:Nat} {o:Oper} {g:AFact SA} (ho:l[i]? = some o) (hd:o.dst=some d) (hg:afAt Gs i=g.G) (hb:Nat.beq i A=false) (h:∀ w lo hi,Iw w→NeedA l Gs w lo hi (λ acc=>TL P n l.toArray [o] acc w (oneA d g.G Grow w)) (kQ (cD o)) e):DoesA P n l e I0 I1 Iw Gs A i:=by
 unfold DoesA
 rw [ho]
 simp only [hb]
 rw [hg,dstAt_of (d:=d) (by rw [ho];exact hd)]
 exact h
theorem doesA_it {i d:Nat} {o:Oper} {g:AFact SA} (ho:l[i]? = some o) (hd:o.dst=some d) (hg:afAt Gs i=g.G) (hb:Nat.beq i A=true) (h:∀ w lo hi,I0 w→NeedA l Gs w lo hi (λ acc=>TL P n l.toArray [o] acc w (oneA d g.G (λ w w'=>SA w w'∧I1 w') w)) (kQ (cD o)) e):DoesA P n l e I0 I1 Iw Gs A i:=by
 unfold DoesA
 rw [ho]
 simp only [hb]
 rw [hg,dstAt_of (d:=d) (by rw [ho];exact hd)]
 exact h
theorem dZ {w:World} {lo hi:Nat→Nat} {K:dN→Prop} {j d:Nat} {g:AFact SA} {js:List Nat} {acc:dN} (hd:(l[j]?).bind (·.dst)=some d) (hg:afAt Gs j=g.G) (h:∀ v,g.G v (lo j) (hi j) w→NeedA l Gs w lo hi K js ((d,v)::acc)):NeedA l Gs w lo hi K (j::js) acc:=by
 unfold NeedA
 rw [hg,dstAt_of hd]
 exact h
theorem eO {w:World} {lo hi:Nat→Nat} {K:dN→Prop} {acc:dN} (h:K acc):NeedA l Gs w lo hi K [] acc:=h
theorem iA {d:Nat} {G:Fact} {w w':World} {R:World→World→Prop} {e':dN} {v:Value} (hv:find e' d=some v) (hg:R w w') (hG:G v w.heap.size w'.heap.size w'):oneA d G R w .normal e' w':=⟨v,hv,hg,hG⟩
theorem T.anyA {rid:Nat} {w0:World} (SA:World→World→Prop) (N A:Nat) (I0 I1 Iw:World→Prop) (Gs:List (AFact SA)) [hm:Mixed P] (hc:(headOk l e n 0 N&&mR l N N (l.length-N)&&Nat.ble N l.length&&(Nat.ble l.length N || sinkOk l N)&&Nat.blt A N&&lateOk l Gs A N)=true)
  (hI:I0 w0) (h01:∀ w,I0 w→Iw w) (h11:∀ w,I1 w→Iw w) (hb0:∀ w,Iw w→w0.heap.size≤w.heap.size) (hg0:∀ w w',I0 w→Grow w w'→I0 w') (hg1:∀ w w',I1 w→Grow w w'→I1 w') (hSA:∀ w w',SA w w'→w.heap.size≤w'.heap.size)
  (hdo:AllA P n l e I0 I1 Iw Gs A 0 N) (htail:∀ w (lo hi:Nat→Nat),I1 w→(∀ i,i<N→w0.heap.size≤lo i∧lo i≤hi i∧hi i≤w.heap.size)→(∀ i j,i<N→j<N→i≠j→hi i≤lo j∨hi j≤lo i)→NeedA l Gs w lo hi (λ acc=>TL P n l.toArray (l.drop N) acc w Q) (mT 0 N) e):T P n (.region rid l.toArray true) e w0 Q:=by
 simp only [Bool.and_eq_true] at hc
 obtain ⟨⟨⟨⟨⟨hc1,hc2⟩,hc3⟩,hc4⟩,hc5⟩,hc6⟩:=hc
 have hN:N≤l.length:=Nat.le_of_ble_eq_true hc3
 have hsink:N<l.length→sinkOk l N=true:=by
  intro h
  simp only [Bool.or_eq_true] at hc4
  rcases hc4 with h2|h2
  ·have:=Nat.le_of_ble_eq_true h2;omega
  ·exact h2
 have hgf:∀ i,(Array.replicate l.toArray.size false).getD i false=false:=by
  intro i
  rw [Array.getD_eq_getD_getElem?]
  rcases Nat.lt_or_ge i l.length with hi|hi
  ·simp [hi]
  ·simp [hi]
 refine T.mk λ a ha=>wpIn_region_any hm.h ?_
 refine anyA_runs (b0:=w0.heap.size) (A:=A) (Nat.le_of_ble_eq_true hc5) hN (λ h i hi=>sinkOk_at (hsink h) i hi) h01 h11 hb0 hg0 hg1 hSA hc6 (λ i hi=>headOk_at hc1 i (Nat.zero_le _) (by omega)) (λ j h1 h2=>lC hc2 j h1 (by omega)) (λ i hi=>allA_at hdo i (Nat.zero_le _) (by omega)) ?_
  N (Array.replicate l.toArray.size false) a _ (λ _=>undef) (λ _=>0) (λ _=>0) _ ⟨by simp,λ _=>hg0 _ _ hI (Grow.drew _),λ h=>?_,ha.defers,ha.size,ha.get,λ i _ h=>?_,λ i _ h=>?_,λ i j _ _ _ h _=>?_,λ i _=>hgf i,λ j o _ h x _=>?_⟩ ?_ (by simp;omega)
 ·intro w lo hi vs h1 h2 h3 h4
  obtain ⟨acc,hk,hf⟩:=needA_env (vs:=vs) (htail w lo hi h1 h2 h3) (λ j hj=>h4 j (by have:=fE.1 hj;omega))
  refine ⟨acc,hk,λ t v hv=>?_⟩
  rcases hf t v hv with ⟨j,hj,h5⟩|h5
  ·exact Or.inl ⟨j,by have:=fE.1 hj;omega,h5⟩
  ·exact Or.inr h5
 ·rw [hgf] at h;cases h
 ·rw [hgf] at h;cases h
 ·rw [hgf] at h;cases h
 ·rw [hgf] at h;cases h
 ·rw [hgf] at h;cases h
 ·have:((List.range N).filter λ i=>!((Array.replicate l.toArray.size false).getD i false))=List.range N:=by
   rw [List.filter_eq_self]
   intro i hi
   rw [hgf]
   rfl
  rw [this]
  simp
end any
end Go.V
namespace Go.V
open Go Go.RowKit
section
variable [Rn]
variable {P:Program} {n:Nat} {e:dN} {w:World} {Q:dO} {ops:Array Oper} {rest:List Oper} {d:Nat} {ty:TypeId} {pos:String} {aft:Array Edge}
theorem TL.orP (j:Nat) {zx zy:Int} {x y:Operand} {kd:IntKind} {M a b:Nat} {t1 t2:TypeId} (hx:val e x=some (.int kd zx)) [ix:Lit zx a] (hy:val e y=some (.int kd zy)) [iy:Lit zy b] (hM:ulim kd=some M) (ha:a<2^j) (hb:b%2^j=0) (haM:a<M) (hbM:b<M) (hd:Nat.blt d n=true)
  (k:TL P n ops rest ((d,.int kd ((a+b:Nat):Int))::e) w Q):TL P n ops (⟨some d,.binOp .or t1 x y t2,ty,pos,aft,none⟩::rest) e w Q :=
 TL.run (λ r hr=>by
  rw [ix.h] at hx;rw [iy.h] at hy
  have e1:((BitVec.ofInt kd.bits (a:Int))|||(BitVec.ofInt kd.bits (b:Int))).toNat=a+b:=by
   rw [BitVec.toNat_or,bits_nat hM,bits_nat hM,Nat.mod_eq_of_lt haM,Nat.mod_eq_of_lt hbM,or_apart rfl ha hb]
  have hlt:a+b<M:=by
   rw [← e1,ulim_bits hM];exact BitVec.isLt _
  have e2:=eW hM hlt
  rw [← e1] at e2
  have hb:binOp .or t1 (.int kd (a:Int)) (.int kd (b:Int))=Pure.pure (.int kd ((a+b:Nat):Int)):=by
   simp only [binOp,Op.intBits,ne_eq,not_true_eq_false,if_false]
   rw [e2,e1]
  simp only [execOp,cC,hr.eval hx,hr.eval hy,hb]
  rfl) hd k
end
end Go.V
namespace Go.Proofs.YtfpadnmdafiddaaGreatDoor
open Go Go.RowKit Go.V
theorem Rd.lt {B b e:Nat} {r:Bs} {w:World} (h:Rd B b r e w):b<w.heap.size:=by
 obtain ⟨a,n,c,p,L,h1,_⟩:=h
 exact h1.lt
theorem Rd.bytes {B b e:Nat} {r:Bs} {w:World} (h:Rd B b r e w):∀ x∈r,x<256:=by
 obtain ⟨a,n,c,p,L,h1,h2,h3,h4,h5,h6⟩:=h
 intro x hx
 exact h5 x (List.mem_of_mem_drop (i:=p) (by rw [h6];exact hx))
theorem Rd.len {B b e:Nat} {r:Bs} {w:World} (h:Rd B b r e w):r.length≤1099511627776:=by
 obtain ⟨a,n,c,p,L,h1,h2,h3,h4,h5,h6⟩:=h
 have:=iE h2
 have:=congrArg List.length h6
 simp at this
 omega
theorem take_yes' {B b m:Nat} {r:Bs} {w:World} (h:Rd B b r 0 w) (hm:m≤r.length) :
  Calls Tryz.prog 256 #[.pointer (some ⟨b,0,none⟩),.int .u64 (m:Int)] w (Ret λ v w'=>∃ a' c',v=.tuple #[.slice a' m c',.bool true]∧Sl (λ k=>B≤k∧k<b) w' 1 a' m c' (cX (r.take m))∧Rd B b (r.drop m) 0 w'∧Mut b w w'):=by
 obtain ⟨a,n,c,p,L,h1,h2,h3,h4,h5,h6⟩:=h
 have hl:=iE h2
 have hr:=congrArg List.length h6
 simp at hr
 refine Calls.mono (take_yes _ b a n c p m L w h1 h2 (by omega) (by omega) h3 (by omega)) (λ x w' hx=>Ret.mono hx λ v w' hv=>?_)
 obtain ⟨a',c',q1,q2,q3,q4⟩:=hv
 exact ⟨a',c',q1,by rw [← h6];exact q2,⟨a,n,c,p+m,L,q3,lH h2 q4 (by omega),by omega,h4,h5,by rw [← List.drop_drop,h6]⟩,q4⟩
theorem take_no' {B b m:Nat} {r:Bs} {w:World} (h:Rd B b r 0 w) (hm:r.length<m) (hm2:m<18446744073709551616) :
  Calls Tryz.prog 256 #[.pointer (some ⟨b,0,none⟩),.int .u64 (m:Int)] w (Ret λ v w'=>v=.tuple #[.slice none 0 0,.bool false]∧Rd B b r 5 w'∧Mut b w w'):=by
 obtain ⟨a,n,c,p,L,h1,h2,h3,h4,h5,h6⟩:=h
 have hl:=iE h2
 have hr:=congrArg List.length h6
 simp at hr
 refine Calls.mono (take_no b a n c p m w h1 (by omega) h3 (by omega) hm2) (λ x w' hx=>Ret.mono hx λ v w' hv=>?_)
 obtain ⟨q1,q3,q4⟩:=hv
 exact ⟨q1,⟨a,n,c,p,L,q3,lH h2 q4 (by omega),h3,h4,h5,h6⟩,q4⟩
theorem take_err' {B b m e:Nat} {r:Bs} {w:World} (h:Rd B b r e w) (he:e≠0) :
  Calls Tryz.prog 256 #[.pointer (some ⟨b,0,none⟩),.int .u64 (m:Int)] w (Ret λ v w'=>v=.tuple #[.slice none 0 0,.bool false]∧w=w'):=by
 obtain ⟨a,n,c,p,L,h1,h2⟩:=h
 exact take_err b a n c p e m w h1 he
theorem left' {B b e:Nat} {r:Bs} {w:World} (h:Rd B b r e w) :
  Calls Tryz.prog 225 #[.pointer (some ⟨b,0,none⟩)] w (Ret λ v w'=>v=.int .i64 (r.length:Int)∧Grow w w'):=by
 obtain ⟨a,n,c,p,L,h1,h2,h3,h4,h5,h6⟩:=h
 have hl:=iE h2
 have hr:=congrArg List.length h6
 simp at hr
 have:=left_c b a n c p e w h1 (by omega) h3
 rwa [show n-p=r.length by omega] at this
def leW (r:Bs):Nat→Nat
 | 0=>0
 | i+1=>leW r i+r.getD i 0*2^(8*i)
theorem leW_lt {r:Bs} (hr:∀ x∈r,x<256):∀ i,leW r i<2^(8*i)
 | 0=>by simp [leW]
 | i+1=>by
  have ih:=leW_lt hr i
  have hg:r.getD i 0<256:=by
   rw [List.getD_eq_getElem?_getD]
   cases hx:r[i]? with
   | none=>simp
   | some x=>exact hr x (List.mem_of_getElem? hx)
  simp only [leW]
  rw [show 8*(i+1)=8*i+8 by omega,Nat.pow_add]
  generalize 2^(8*i)=X at *
  have:(r.getD i 0+1)*X≤256*X:=Nat.mul_le_mul_right _ (by omega)
  rw [Nat.add_mul] at this
  omega
theorem le4_eq (r:Bs):leW r 4=le4 r:=by simp [leW,le4];omega
theorem word_yes {B b m:Nat} {r:Bs} {w:World} (h:Rd B b r 0 w) (h1:1≤m) (h8:m≤8) (hm:m≤r.length) :
  Calls Tryz.prog 221 #[.pointer (some ⟨b,0,none⟩),.int .i64 (m:Int)] w (Ret λ v w'=>v=.int .u64 (leW r m:Int)∧Rd B b (r.drop m) 0 w'∧Mut b w w'):=by
 have hby:=h.bytes
 refine V.calls (args:=[_,_]) Tryz.func221 rfl Tryz.ntmps221 rfl rfl ?_
 repeat (first|(refine aL 214 ?_;refine aI rfl (clamp_c m h1 h8 _) rfl ?_;rintro _ _ ⟨rfl,rfl⟩)|(refine aB ?_;refine TL.pure rfl rfl ?_)|(refine aD ?_;refine TL.pure rfl rfl ?_)|refine TL.nil ?_|refine aA ?_|refine aJ ?_|refine aC ?_|(refine cZ ?_;refine eV rfl rfl (by omega) rfl ?_))
 refine aI rfl (take_yes' h hm) rfl ?_
 rintro _ w1 ⟨a,c,rfl,hs,hr1,hm1⟩
 repeat (first|(refine aB ?_;refine TL.pure rfl rfl ?_)|(refine aD ?_;refine TL.pure rfl rfl ?_)|refine TL.nil ?_|refine aA ?_|refine aJ ?_|refine aC ?_|refine T.block ?_|refine aO rfl rfl ?_|refine aE rfl ?_|refine aV ?_|refine TL.pure rfl rfl ?_)
 refine cM (S:=Nat) (λ i=>[(22,.int .i64 (i:Int)),(21,.int .i64 (m:Int)),(20,.slice a m c),(7,.int .u64 (leW r i:Int))]) (λ i w'=>i≤m∧w1=w') (λ i=>m-i) 0 ⟨rfl,rfl,rfl,rfl,trivial⟩ ⟨by omega,rfl⟩ ?_
 rintro i _ ⟨hi,rfl⟩
 by_cases hlt:i<m
 ·obtain ⟨p,hp⟩:∃ p,r[i]? = some p:=⟨_,List.getElem?_eq_getElem (by omega)⟩
  have hp2:(r.take m)[i]? = some p:=by rw [List.getElem?_take,if_pos hlt];exact hp
  have hcx:w1.cell? (at' a i)=some (.int .u8 (p:Int)):=hs.row.cell (by unfold cX;rw [List.getElem?_map,hp2];rfl)
  have hp256:=hby p (List.mem_of_getElem? hp)
  have hpw:p*2^(8*i)<18446744073709551616:=by
   have:(2:Nat)^(8*i)≤2^56:=Nat.pow_le_pow_right (by decide) (by omega)
   have h3:p*2^(8*i)≤255*2^56:=Nat.mul_le_mul (by omega) this
   omega
  have hl1:=leW_lt hby i
  have hl2:leW r i<18446744073709551616:=by
   have:(2:Nat)^(8*i)≤2^64:=Nat.pow_le_pow_right (by decide) (by omega)
   omega
  have hst:leW r (i+1)=leW r i+p*2^(8*i):=by simp [leW,List.getD_eq_getElem?_getD,hp]
  repeat (first|(refine bF ?_;refine aW rfl rfl rfl hlt (Nat.mul_one _) ⟨_,_,hs⟩ rfl ?_)|(refine gU ?_;refine gZ (a:=8) rfl rfl (by omega) rfl ?_)|(refine TL.isShl ?_;refine TL.shlS (M:=18446744073709551616) rfl rfl rfl (by show 8*i≤64;omega) hpw rfl ?_)|(refine TL.isOr ?_;refine TL.orP (8*i) rfl rfl rfl hl1 (by simp) hl2 hpw rfl ?_)|(refine aB ?_;refine TL.pure rfl rfl ?_)|(refine aD ?_;refine TL.pure rfl rfl ?_)|refine aK rfl yM rfl ?_|(refine bJ ?_;refine bT rfl rfl (by omega) rfl ?_)|refine TL.nil ?_|refine aA ?_|refine aJ ?_|refine aC ?_|refine T.block ?_|refine aT ?_|(refine aH ?_;refine bA rfl yD rfl ?_)|(refine cZ ?_;refine eV rfl rfl (by omega) rfl ?_)|refine aN rfl ?_|refine aV ?_)
  rw [← hst]
  exact bG (i+1) ⟨rfl,rfl,rfl,rfl,trivial⟩ ⟨hlt,rfl⟩ (by omega)
 ·obtain rfl:i=m:=by omega
  repeat (first|(refine aB ?_;refine TL.pure rfl rfl ?_)|(refine aD ?_;refine TL.pure rfl rfl ?_)|refine TL.nil ?_|refine aA ?_|refine aJ ?_|refine aC ?_|(refine aH ?_;refine aR rfl yD rfl ?_)|refine aE rfl ?_|refine bC ?_|refine cN ?_|refine bM ?_|refine bO ?_|refine bN ?_)
  exact cF rfl ⟨_,rfl,rfl,hr1,hm1⟩
theorem word_no {B b m:Nat} {r:Bs} {w:World} (h:Rd B b r 0 w) (h1:1≤m) (h8:m≤8) (hm:r.length<m) :
  Calls Tryz.prog 221 #[.pointer (some ⟨b,0,none⟩),.int .i64 (m:Int)] w (Ret λ v w'=>v=.int .u64 0∧Rd B b r 5 w'∧Mut b w w'):=by
 refine V.calls (args:=[_,_]) Tryz.func221 rfl Tryz.ntmps221 rfl rfl ?_
 repeat (first|(refine aL 214 ?_;refine aI rfl (clamp_c m h1 h8 _) rfl ?_;rintro _ _ ⟨rfl,rfl⟩)|(refine aB ?_;refine TL.pure rfl rfl ?_)|(refine aD ?_;refine TL.pure rfl rfl ?_)|refine TL.nil ?_|refine aA ?_|refine aJ ?_|refine aC ?_|(refine cZ ?_;refine eV rfl rfl (by omega) rfl ?_))
 refine aI rfl (take_no' h hm (by omega)) rfl ?_
 rintro _ w1 ⟨rfl,hr1,hm1⟩
 repeat (first|(refine aB ?_;refine TL.pure rfl rfl ?_)|(refine aD ?_;refine TL.pure rfl rfl ?_)|refine TL.nil ?_|refine aA ?_|refine aJ ?_|refine aC ?_|refine aN rfl ?_|refine bC ?_|refine bI ?_|refine TL.pure rfl rfl ?_)
 exact cF rfl ⟨_,rfl,rfl,hr1,hm1⟩
theorem word_err {B b m e:Nat} {r:Bs} {w:World} (h:Rd B b r e w) (he:e≠0) (h1:1≤m) (h8:m≤8) :
  Calls Tryz.prog 221 #[.pointer (some ⟨b,0,none⟩),.int .i64 (m:Int)] w (Ret λ v w'=>v=.int .u64 0∧w=w'):=by
 refine V.calls (args:=[_,_]) Tryz.func221 rfl Tryz.ntmps221 rfl rfl ?_
 repeat (first|(refine aL 214 ?_;refine aI rfl (clamp_c m h1 h8 _) rfl ?_;rintro _ _ ⟨rfl,rfl⟩)|(refine aB ?_;refine TL.pure rfl rfl ?_)|(refine aD ?_;refine TL.pure rfl rfl ?_)|refine TL.nil ?_|refine aA ?_|refine aJ ?_|refine aC ?_|(refine cZ ?_;refine eV rfl rfl (by omega) rfl ?_))
 refine aI rfl (take_err' h he) rfl ?_
 rintro _ _ ⟨rfl,rfl⟩
 repeat (first|(refine aB ?_;refine TL.pure rfl rfl ?_)|(refine aD ?_;refine TL.pure rfl rfl ?_)|refine TL.nil ?_|refine aA ?_|refine aJ ?_|refine aC ?_|refine aN rfl ?_|refine bC ?_|refine bI ?_|refine TL.pure rfl rfl ?_)
 exact cF rfl ⟨_,rfl,rfl,rfl⟩
theorem take_all {B b:Nat} {r:Bs} {w:World} (h:Rd B b r 0 w) :
  Calls Tryz.prog 224 #[.pointer (some ⟨b,0,none⟩),.int .i64 (r.length:Int)] w (Ret λ v w'=>∃ a c,v=.slice a r.length c∧Sl (λ k=>w.heap.size≤k) w' 1 a r.length c (cX r)∧Rd B b [] 0 w'∧Mut b w w'):=by
 have hlen:=h.len
 have hlt:=h.lt
 refine V.calls (args:=[_,_]) Tryz.func224 rfl Tryz.ntmps224 rfl rfl ?_
 repeat (first|(refine lG ?_;refine TL.maxV (r:=(r.length:Int)) rfl rfl (by split<;>omega) rfl ?_)|(refine aB ?_;refine TL.pure rfl rfl ?_)|(refine aD ?_;refine TL.pure rfl rfl ?_)|refine TL.nil ?_|refine aA ?_|refine aJ ?_|refine aC ?_|(refine cZ ?_;refine eV rfl rfl (by omega) rfl ?_))
 refine aI rfl (take_yes' h (Nat.le_refl _)) rfl ?_
 rintro _ w1 ⟨a,c,rfl,hs,hr1,hm1⟩
 rw [List.take_length] at hs
 rw [List.drop_length] at hr1
 repeat (first|(refine aB ?_;refine TL.pure rfl rfl ?_)|(refine aD ?_;refine TL.pure rfl rfl ?_)|refine TL.nil ?_|refine aA ?_|refine aJ ?_|refine aC ?_|refine aE rfl ?_|refine aV ?_|refine TL.pure rfl rfl ?_)
 refine aI rfl (grown_c _ a _ c 0 (cX r) _ hs (dY _) (by omega)) rfl ?_
 rintro v2 w2 ⟨hown,hg2⟩
 obtain ⟨a2,c2,rfl,hs2⟩:=cE hown
 repeat (first|(refine aD ?_;refine TL.pure rfl rfl ?_)|refine TL.nil ?_|refine aA ?_|refine bC ?_)
 have:=hm1.size
 exact cF rfl ⟨_,rfl,a2,c2,rfl,hs2.mono (λ k hk=>by have:=hk.1;omega),hr1.grow hg2,hm1.trans (jI hg2)⟩
theorem take_alle {B b e:Nat} {r:Bs} {w:World} (h:Rd B b r e w) (he:e≠0) :
  Calls Tryz.prog 224 #[.pointer (some ⟨b,0,none⟩),.int .i64 (r.length:Int)] w (Ret λ v w'=>v=.slice none 0 0∧w=w'):=by
 have hlen:=h.len
 refine V.calls (args:=[_,_]) Tryz.func224 rfl Tryz.ntmps224 rfl rfl ?_
 repeat (first|(refine lG ?_;refine TL.maxV (r:=(r.length:Int)) rfl rfl (by split<;>omega) rfl ?_)|(refine aB ?_;refine TL.pure rfl rfl ?_)|(refine aD ?_;refine TL.pure rfl rfl ?_)|refine TL.nil ?_|refine aA ?_|refine aJ ?_|refine aC ?_|(refine cZ ?_;refine eV rfl rfl (by omega) rfl ?_))
 refine aI rfl (take_err' h he) rfl ?_
 rintro _ _ ⟨rfl,rfl⟩
 repeat (first|(refine aB ?_;refine TL.pure rfl rfl ?_)|(refine aD ?_;refine TL.pure rfl rfl ?_)|refine TL.nil ?_|refine aA ?_|refine aJ ?_|refine aC ?_|refine aN rfl ?_|refine bC ?_|refine bI ?_|refine TL.pure rfl rfl ?_)
 exact cF rfl ⟨_,rfl,rfl,rfl⟩
end Go.Proofs.YtfpadnmdafiddaaGreatDoor
namespace Go.Proofs.YtfpadnmdafiddaaGreatDoor
open Go Go.RowKit Go.V
theorem rdblk_ok {B b:Nat} {r p r':Bs} {w:World} (h:Rd B b r 0 w) (hr:kM r=some (p,r')) :
  Calls Tryz.prog 223 #[.pointer (some ⟨b,0,none⟩)] w (Ret λ v w'=>∃ a c,v=.slice a p.length c∧Sl (λ k=>w.heap.size≤k) w' 1 a p.length c (cX p)∧Rd B b r' 0 w'∧Mut b w w'):=by
 have hby:=h.bytes
 have hlen:=h.len
 have hrl:=h.lt
 obtain ⟨a,n,c,q,L,h1,h2,h3,h4,h5,h6⟩:=h
 have hl:=iE h2
 have hrr:=congrArg List.length h6
 simp at hrr
 unfold kM at hr
 split at hr
 rotate_left
 ·cases hr
 rename_i hn0
 split at hr
 rotate_left
 ·cases hr
 rename_i hfit
 cases r with
 | nil=>simp [gG] at hn0
 | cons f t =>
  have hc:=numV_le f t
  simp only [Option.some.injEq,Prod.mk.injEq] at hr
  obtain ⟨hp,hr'⟩:=hr
  have hvb:=numV_back (r:=f::t) (v:=(gG (f::t)).1) (k:=(gG (f::t)).2.1) hby (by rw [← hn0])
  refine V.calls (args:=[_]) Tryz.func223 rfl Tryz.ntmps223 rfl rfl ?_
  have hb2:=h1
  unfold rdr at hb2
  repeat (first|(refine aL 257 ?_;refine aI rfl (made_c b a n c q 0 _ h1) rfl ?_;rintro _ _ ⟨rfl,rfl⟩)|(refine aB ?_;refine TL.pure rfl rfl ?_)|(refine aD ?_;refine TL.pure rfl rfl ?_)|refine aK rfl yM rfl ?_|refine aF rfl rfl ?_|refine TL.nil ?_|refine aA ?_|refine aJ ?_|refine aC ?_|refine bL rfl rfl ?_|refine aE rfl ?_|refine aV ?_|refine TL.pure rfl rfl ?_)
  refine aI rfl (rnum_some _ b a n c q L f t _ h1 h2 (by omega) (by omega) h3 h5 h6) rfl ?_
  rintro _ w1 ⟨rfl,hb1,hm1⟩
  rw [hn0] at hb1
  clear hb2
  repeat (first|(refine aB ?_;refine TL.pure rfl rfl ?_)|(refine aD ?_;refine TL.pure rfl rfl ?_)|refine TL.nil ?_|refine aA ?_|refine aJ ?_|refine aC ?_)
  have hs1:=lH h2 hm1 (by omega)
  have e3:L.drop (q+(gG (f::t)).2.1)=(f::t).drop (gG (f::t)).2.1:=by rw [← List.drop_drop,h6]
  have hle:(gG (f::t)).1≤n-(q+(gG (f::t)).2.1):=by
   have:=hfit
   rw [List.length_drop] at this
   simp only [List.length_cons] at this hrr
   omega
  refine aI rfl (take_yes _ b a n c (q+(gG (f::t)).2.1) (gG (f::t)).1 L _ hb1 hs1 (by omega) (by omega) (by simp only [List.length_cons] at hc hrr;omega) hle) rfl ?_
  rintro _ w2 ⟨a2,c2,rfl,hs2,hb3,hm2⟩
  rw [e3,hp] at hs2
  have hpl:(gG (f::t)).1=p.length:=iE hs2
  rw [hpl] at hs2 ⊢
  repeat (first|(refine aB ?_;refine TL.pure rfl rfl ?_)|(refine aD ?_;refine TL.pure rfl rfl ?_)|refine TL.nil ?_|refine aA ?_|refine aJ ?_|refine aC ?_|refine aE rfl ?_|refine aV ?_|refine TL.pure rfl rfl ?_)
  refine aI rfl (grown_c _ a2 p.length c2 0 (cX p) _ hs2 (dY _) (by have:=hs2.cap;rw [← hpl];omega)) rfl ?_
  rintro v3 w3 ⟨hown,hg3⟩
  obtain ⟨a4,c4,rfl,hs4⟩:=cE hown
  repeat (first|(refine aD ?_;refine TL.pure rfl rfl ?_)|refine TL.nil ?_|refine aA ?_|refine bC ?_)
  have:=hm1.size
  have:=hm2.size
  refine cF rfl ⟨_,rfl,a4,c4,rfl,hs4.mono (λ k hk=>by have:=hk.1;omega),Rd.grow ⟨a,n,c,q+(gG (f::t)).2.1+(gG (f::t)).1,L,hb3,lH hs1 hm2 (by omega),by omega,h4,h5,?_⟩ hg3,(hm1.trans hm2).trans (jI hg3)⟩
  rw [← hr',← List.drop_drop,e3]
theorem rdblk_no {B b e:Nat} {r:Bs} {w:World} (h:Rd B b r e w) (hr:e≠0∨kM r=none) :
  Calls Tryz.prog 223 #[.pointer (some ⟨b,0,none⟩)] w (Ret λ v w'=>v=.slice none 0 0∧(∃ e',e'≠0∧Rd B b r e' w')∧Mut b w w'):=by
 have hby:=h.bytes
 have hlen:=h.len
 have hrl:=h.lt
 obtain ⟨a,n,c,q,L,h1,h2,h3,h4,h5,h6⟩:=h
 have hl:=iE h2
 have hrr:=congrArg List.length h6
 simp at hrr
 refine V.calls (args:=[_]) Tryz.func223 rfl Tryz.ntmps223 rfl rfl ?_
 have hb2:=h1
 unfold rdr at hb2
 have fin:∀ (w1:World) (q1 e1:Nat),e1≠0→Blk w1 b 329 (rdr b a n c q1 e1)→Mut b w w1→Sl (λ k=>B≤k∧k<b) w1 1 a n c (cX L)→∀ w2:World,Blk w2 b 329 (rdr b a n c q e1)→Mut b w1 w2→(∃ e',e'≠0∧Rd B b r e' w2)∧Mut b w w2:=by
  intro w1 q1 e1 he hb1 hm1 hs1 w2 hb2 hm2
  exact ⟨⟨e1,he,a,n,c,q,L,hb2,lH hs1 hm2 (by omega),h3,h4,h5,h6⟩,hm1.trans hm2⟩
 by_cases he:e=0
 rotate_left
 ·repeat (first|(refine aL 257 ?_;refine aI rfl (made_c b a n c q e _ h1) rfl ?_;rintro _ _ ⟨rfl,rfl⟩)|(refine aL 258 ?_;refine aI rfl (rnum_err b a n c q e _ h1 he) rfl ?_;rintro _ _ ⟨rfl,rfl⟩)|(refine aL 256 ?_;refine aI rfl (take_err b a n c q e 0 _ h1 he) rfl ?_;rintro _ _ ⟨rfl,rfl⟩)|(refine aB ?_;refine TL.pure rfl rfl ?_)|(refine aD ?_;refine TL.pure rfl rfl ?_)|refine aK rfl yM rfl ?_|refine aF rfl rfl ?_|refine TL.nil ?_|refine aA ?_|refine aJ ?_|refine aC ?_|refine bL rfl rfl ?_|refine aN rfl ?_|refine aE rfl ?_|refine aV ?_|refine TL.pure rfl rfl ?_)
  refine aI rfl (fail_c b a n c q e q e _ h1) rfl ?_
  rintro _ w4 ⟨hb4,hm4⟩
  repeat (first|(refine aD ?_;refine TL.pure rfl rfl ?_)|refine TL.nil ?_|refine aA ?_|refine aJ ?_|refine aC ?_|refine bC ?_|refine bI ?_)
  obtain ⟨g1,g2⟩:=fin w q e he h1 (jI (Grow.refl _)) h2 w4 hb4 hm4
  exact cF rfl ⟨_,rfl,rfl,g1,g2⟩
 subst he
 have hr:=hr.resolve_left (λ h=>h rfl)
 cases r with
 | nil =>
  have hq:q=n:=by simp at hrr;omega
  subst hq
  repeat (first|(refine aL 257 ?_;refine aI rfl (made_c b a q c q 0 _ h1) rfl ?_;rintro _ _ ⟨rfl,rfl⟩)|(refine aB ?_;refine TL.pure rfl rfl ?_)|(refine aD ?_;refine TL.pure rfl rfl ?_)|refine aK rfl yM rfl ?_|refine aF rfl rfl ?_|refine TL.nil ?_|refine aA ?_|refine aJ ?_|refine aC ?_|refine bL rfl rfl ?_|refine aE rfl ?_|refine aV ?_|refine TL.pure rfl rfl ?_)
  refine aI rfl (rnum_none b a q c _ h1 (by omega)) rfl ?_
  rintro _ w1 ⟨rfl,hb1,hm1⟩
  have hb1':=hb1
  unfold rdr at hb1'
  clear hb2
  repeat (first|(refine aL 256 ?_;refine aI rfl (take_err b a q c q 5 0 _ hb1 (by omega)) rfl ?_;rintro _ _ ⟨rfl,rfl⟩)|(refine aB ?_;refine TL.pure rfl rfl ?_)|(refine aD ?_;refine TL.pure rfl rfl ?_)|refine aK rfl yM rfl ?_|refine aF rfl rfl ?_|refine TL.nil ?_|refine aA ?_|refine aJ ?_|refine aC ?_|refine bL rfl rfl ?_|refine aN rfl ?_|refine TL.pure rfl rfl ?_)
  refine aI rfl (fail_c b a q c q 5 q 5 _ hb1) rfl ?_
  rintro _ w4 ⟨hb4,hm4⟩
  repeat (first|(refine aD ?_;refine TL.pure rfl rfl ?_)|refine TL.nil ?_|refine aA ?_|refine aJ ?_|refine aC ?_|refine bC ?_|refine bI ?_)
  obtain ⟨g1,g2⟩:=fin w1 q 5 (by omega) hb1 hm1 (lH h2 hm1 (by omega)) w4 hb4 hm4
  exact cF rfl ⟨_,rfl,rfl,g1,g2⟩
 | cons f t =>
  have hc:=numV_le f t
  repeat (first|(refine aL 257 ?_;refine aI rfl (made_c b a n c q 0 _ h1) rfl ?_;rintro _ _ ⟨rfl,rfl⟩)|(refine aB ?_;refine TL.pure rfl rfl ?_)|(refine aD ?_;refine TL.pure rfl rfl ?_)|refine aK rfl yM rfl ?_|refine aF rfl rfl ?_|refine TL.nil ?_|refine aA ?_|refine aJ ?_|refine aC ?_|refine bL rfl rfl ?_|refine aE rfl ?_|refine aV ?_|refine TL.pure rfl rfl ?_)
  refine aI rfl (rnum_some _ b a n c q L f t _ h1 h2 (by omega) (by omega) h3 h5 h6) rfl ?_
  rintro _ w1 ⟨rfl,hb1,hm1⟩
  have hs1:=lH h2 hm1 (by omega)
  by_cases hn0:(gG (f::t)).2.2=0
  ·rw [hn0] at hb1
   have hvb:=numV_back (r:=f::t) (v:=(gG (f::t)).1) (k:=(gG (f::t)).2.1) hby (by rw [← hn0])
   have hfit:¬ (gG (f::t)).1≤((f::t).drop (gG (f::t)).2.1).length:=by
    intro hf
    unfold kM at hr
    rw [if_pos hn0,if_pos hf] at hr
    cases hr
   rw [List.length_drop] at hfit
   simp only [List.length_cons] at hfit hrr hc
   clear hb2
   repeat (first|(refine aB ?_;refine TL.pure rfl rfl ?_)|(refine aD ?_;refine TL.pure rfl rfl ?_)|refine TL.nil ?_|refine aA ?_|refine aJ ?_|refine aC ?_)
   refine aI rfl (take_no b a n c (q+(gG (f::t)).2.1) (gG (f::t)).1 _ hb1 (by omega) (by omega) (by omega) hvb.2.2) rfl ?_
   rintro _ w2 ⟨rfl,hb3,hm2⟩
   have hb3':=hb3
   unfold rdr at hb3'
   repeat (first|(refine aB ?_;refine TL.pure rfl rfl ?_)|(refine aD ?_;refine TL.pure rfl rfl ?_)|refine aK rfl yM rfl ?_|refine aF rfl rfl ?_|refine TL.nil ?_|refine aA ?_|refine aJ ?_|refine aC ?_|refine bL rfl rfl ?_|refine aN rfl ?_|refine TL.pure rfl rfl ?_)
   refine aI rfl (fail_c b a n c _ 5 q 5 _ hb3) rfl ?_
   rintro _ w4 ⟨hb4,hm4⟩
   repeat (first|(refine aD ?_;refine TL.pure rfl rfl ?_)|refine TL.nil ?_|refine aA ?_|refine aJ ?_|refine aC ?_|refine bC ?_|refine bI ?_)
   obtain ⟨g1,g2⟩:=fin w2 _ 5 (by omega) hb3 (hm1.trans hm2) (lH hs1 hm2 (by omega)) w4 hb4 hm4
   exact cF rfl ⟨_,rfl,rfl,g1,g2⟩
  ·have hb1':=hb1
   unfold rdr at hb1'
   clear hb2
   repeat (first|(refine aB ?_;refine TL.pure rfl rfl ?_)|(refine aD ?_;refine TL.pure rfl rfl ?_)|refine TL.nil ?_|refine aA ?_|refine aJ ?_|refine aC ?_)
   refine aI rfl (take_err b a n c _ _ _ _ hb1 hn0) rfl ?_
   rintro _ _ ⟨rfl,rfl⟩
   repeat (first|(refine aB ?_;refine TL.pure rfl rfl ?_)|(refine aD ?_;refine TL.pure rfl rfl ?_)|refine aK rfl yM rfl ?_|refine aF rfl rfl ?_|refine TL.nil ?_|refine aA ?_|refine aJ ?_|refine aC ?_|refine bL rfl rfl ?_|refine aN rfl ?_|refine TL.pure rfl rfl ?_)
   refine aI rfl (fail_c b a n c _ _ q _ _ hb1) rfl ?_
   rintro _ w4 ⟨hb4,hm4⟩
   repeat (first|(refine aD ?_;refine TL.pure rfl rfl ?_)|refine TL.nil ?_|refine aA ?_|refine aJ ?_|refine aC ?_|refine bC ?_|refine bI ?_)
   obtain ⟨g1,g2⟩:=fin w1 _ _ hn0 hb1 hm1 hs1 w4 hb4 hm4
   exact cF rfl ⟨_,rfl,rfl,g1,g2⟩
end Go.Proofs.YtfpadnmdafiddaaGreatDoor
namespace Go.Proofs.YtfpadnmdafiddaaGreatDoor
open Go Go.RowKit Go.V
def RS (B b:Nat) (o:Option Bs) (w:World):Prop:=match o with
 | some r=>Rd B b r 0 w
 | none=>∃ r e,e≠0∧Rd B b r e w
def hO:Option Bs→Bs×Option Bs
 | none=>([],none)
 | some r=>match kM r with
  | some (p,r')=>(p,some r')
  | none=>([],none)
def rdW (m:Nat):Option Bs→Nat×Option Bs
 | none=>(0,none)
 | some r=>if m≤r.length then (leW r m,some (r.drop m)) else (0,none)
theorem RS.grow {B b:Nat} {o:Option Bs} {w w':World} (h:RS B b o w) (g:Grow w w'):RS B b o w':=by
 cases o with
 | some r=>exact Rd.grow h g
 | none=>obtain ⟨r,e,he,h⟩:=h;exact ⟨r,e,he,h.grow g⟩
theorem RS.lt {B b:Nat} {o:Option Bs} {w:World} (h:RS B b o w):b<w.heap.size:=by
 cases o with
 | some r=>exact Rd.lt h
 | none=>obtain ⟨r,e,he,h⟩:=h;exact h.lt
theorem rs_block {B b:Nat} {o:Option Bs} {w:World} (h:RS B b o w) :
  Calls Tryz.prog 223 #[.pointer (some ⟨b,0,none⟩)] w (Ret λ v w'=>∃ a c,v=.slice a (hO o).1.length c∧Sl (λ k=>w.heap.size≤k) w' 1 a (hO o).1.length c (cX (hO o).1)∧RS B b (hO o).2 w'∧Mut b w w'):=by
 cases o with
 | none =>
  obtain ⟨r,e,he,h⟩:=h
  refine Calls.mono (rdblk_no h (.inl he)) (λ x w' hx=>Ret.mono hx λ v w' hv=>?_)
  obtain ⟨q1,⟨e',q2,q3⟩,q4⟩:=hv
  exact ⟨none,0,q1,Sl.nil_mk _ _ _,⟨r,e',q2,q3⟩,q4⟩
 | some r =>
  cases hr:kM r with
  | none =>
   have e1:hO (some r)=([],none):=by simp [hO,hr]
   rw [e1]
   refine Calls.mono (rdblk_no h (.inr hr)) (λ x w' hx=>Ret.mono hx λ v w' hv=>?_)
   obtain ⟨q1,⟨e',q2,q3⟩,q4⟩:=hv
   exact ⟨none,0,q1,Sl.nil_mk _ _ _,⟨r,e',q2,q3⟩,q4⟩
  | some x =>
   obtain ⟨p,r'⟩:=x
   have e1:hO (some r)=(p,some r'):=by simp [hO,hr]
   rw [e1]
   exact rdblk_ok h hr
theorem rs_word {B b m:Nat} {o:Option Bs} {w:World} (h:RS B b o w) (h1:1≤m) (h8:m≤8) :
  Calls Tryz.prog 221 #[.pointer (some ⟨b,0,none⟩),.int .i64 (m:Int)] w (Ret λ v w'=>v=.int .u64 ((rdW m o).1:Int)∧RS B b (rdW m o).2 w'∧Mut b w w'):=by
 cases o with
 | none =>
  have h0:=h
  obtain ⟨r,e,he,h⟩:=h
  refine Calls.mono (word_err h he h1 h8) (λ x w' hx=>Ret.mono hx λ v w' hv=>?_)
  obtain ⟨q1,rfl⟩:=hv
  exact ⟨q1,h0,jI (Grow.refl _)⟩
 | some r =>
  by_cases hm:m≤r.length
  ·simp only [rdW,if_pos hm]
   exact word_yes h h1 h8 hm
  ·simp only [rdW,if_neg hm]
   refine Calls.mono (word_no h h1 h8 (by omega)) (λ x w' hx=>Ret.mono hx λ v w' hv=>?_)
   obtain ⟨q1,q2,q3⟩:=hv
   exact ⟨q1,⟨r,5,by omega,q2⟩,q3⟩
theorem rs_err {B b:Nat} {o:Option Bs} {w:World} (h:RS B b o w) :
  Calls Tryz.prog 222 #[.pointer (some ⟨b,0,none⟩)] w (Ret λ v w'=>(∃ e:Nat,v=.int .i64 (e:Int)∧(e=0↔o≠none))∧w=w'):=by
 cases o with
 | none =>
  obtain ⟨r,e,he,h⟩:=h
  refine Calls.mono (rderr_c w h) (λ x w' hx=>Ret.mono hx λ v w' hv=>?_)
  exact ⟨⟨e,hv.1,by simp [he]⟩,hv.2⟩
 | some r =>
  refine Calls.mono (rderr_c w h) (λ x w' hx=>Ret.mono hx λ v w' hv=>?_)
  exact ⟨⟨0,hv.1,by simp⟩,hv.2⟩
theorem rs_rest {B b:Nat} {o:Option Bs} {w:World} (h:RS B b o w):∃ n:Nat,n≤1099511627776 ∧
  Calls Tryz.prog 225 #[.pointer (some ⟨b,0,none⟩)] w (Ret λ v w'=>v=.int .i64 (n:Int)∧Grow w w') ∧
  ∀ w1,RS B b o w1→Grow w w1→Calls Tryz.prog 224 #[.pointer (some ⟨b,0,none⟩),.int .i64 (n:Int)] w1 (Ret λ v w'=>∃ a c,v=.slice a (o.getD []).length c∧Sl (λ k=>w1.heap.size≤k) w' 1 a (o.getD []).length c (cX (o.getD []))∧RS B b (o.map λ _=>[]) w'∧Mut b w1 w'):=by
 cases o with
 | none =>
  obtain ⟨r,e,he,h⟩:=h
  refine ⟨r.length,h.len,left' h,λ w1 h1 hg=>?_⟩
  refine Calls.mono (take_alle (h.grow hg) he) (λ x w' hx=>Ret.mono hx λ v w' hv=>?_)
  obtain ⟨q1,rfl⟩:=hv
  exact ⟨none,0,q1,Sl.nil_mk _ _ _,⟨r,e,he,h.grow hg⟩,jI (Grow.refl _)⟩
 | some r =>
  refine ⟨r.length,Rd.len h,left' h,λ w1 h1 hg=>?_⟩
  exact take_all h1
def kL:Nat→Option Bs→dS×Option Bs
 | 0,o=>([],o)
 | c+1,o=>(((hO o).1,(hO (hO o).2).1)::(kL c (hO (hO o).2).2).1,(kL c (hO (hO o).2).2).2)
def kC:Nat→Option Bs→List Nat×Option Bs
 | 0,o=>([],o)
 | c+1,o=>((rdW 4 o).1::(kC c (rdW 4 o).2).1,(kC c (rdW 4 o).2).2)
def kK:Nat→Option Bs→List Bs×Option Bs
 | 0,o=>([],o)
 | c+1,o=>((hO o).1::(kK c (hO o).2).1,(kK c (hO o).2).2)
theorem rdIts_none:∀ c,(kL c none).2=none
 | 0=>rfl
 | c+1=>by simp only [kL,hO];exact rdIts_none c
theorem rdKds_none:∀ c,(kC c none).2=none
 | 0=>rfl
 | c+1=>by simp only [kC,rdW];exact rdKds_none c
theorem rdKys_none:∀ c,(kK c none).2=none
 | 0=>rfl
 | c+1=>by simp only [kK,hO];exact rdKys_none c
theorem rdItems_eq:∀ (c:Nat) (r:Bs),kT c r=(kL c (some r)).2.map λ r'=>((kL c (some r)).1,r')
 | 0,r=>rfl
 | c+1,r=>by
  simp only [kT,kL]
  cases h1:kM r with
  | none=>simp [hO,h1,rdIts_none]
  | some x =>
   obtain ⟨k,r1⟩:=x
   simp only [hO,h1]
   cases h2:kM r1 with
   | none=>simp [rdIts_none]
   | some y =>
    obtain ⟨v,r2⟩:=y
    simp only
    rw [rdItems_eq c r2]
    cases (kL c (some r2)).2<;>rfl
theorem rdKids_eq:∀ (c:Nat) (r:Bs),rdKids c r=(kC c (some r)).2.map λ r'=>((kC c (some r)).1,r')
 | 0,r=>rfl
 | c+1,r=>by
  simp only [rdKids,kC]
  by_cases h:4≤r.length
  ·simp only [rdWord,rdW,if_pos h,le4_eq]
   rw [rdKids_eq c (r.drop 4)]
   cases (kC c (some (r.drop 4))).2<;>rfl
  ·simp only [rdWord,rdW,if_neg h]
   simp [rdKds_none]
theorem rdKeys_eq:∀ (c:Nat) (r:Bs),rdKeys c r=(kK c (some r)).2.map λ r'=>((kK c (some r)).1,r')
 | 0,r=>rfl
 | c+1,r=>by
  simp only [rdKeys,kK]
  cases h1:kM r with
  | none=>simp [hO,h1,rdKys_none]
  | some x =>
   obtain ⟨k,r1⟩:=x
   simp only [hO,h1]
   rw [rdKeys_eq c r1]
   cases (kK c (some r1)).2<;>rfl
theorem readN_eq (b:Bs):gB b=(
  let x:=rdW 1 (some b)
  let y:=rdW 1 x.2
  if y.2=none∨8<y.1 then none
  else if x.1=0 then (kL y.1 y.2).2.bind (finN ⟨(kL y.1 y.2).1,[],[]⟩)
  else if x.1=1∧2≤y.1 then (kK (y.1-1) (kC y.1 y.2).2).2.bind (finN ⟨[],(kC y.1 y.2).1,(kK (y.1-1) (kC y.1 y.2).2).1⟩)
  else none):=by
 match b with
 | []=>simp [gB,rdW]
 | [k]=>simp [gB,rdW]
 | k::c::r =>
  have e1:rdW 1 (some (k::c::r))=(k,some (c::r)):=by simp [rdW,leW]
  have e2:rdW 1 (some (c::r))=(c,some r):=by simp [rdW,leW]
  simp only [e1,e2,gB]
  by_cases h8:8<c
  ·simp [h8]
  ·rw [if_neg h8,if_neg (show ¬ (some r=none∨8<c) by simp [h8])]
   by_cases h0:k=0
   ·rw [if_pos h0,if_pos h0,rdItems_eq]
    cases (kL c (some r)).2<;>rfl
   ·rw [if_neg h0,if_neg h0]
    by_cases h2:k=1∧2≤c
    ·rw [if_pos h2,if_pos h2,rdKids_eq]
     cases hk:(kC c (some r)).2 with
     | none=>simp [rdKys_none]
     | some r1 =>
      simp only [Option.map_some]
      rw [rdKeys_eq]
      cases (kK (c-1) (some r1)).2<;>rfl
    ·rw [if_neg h2,if_neg h2]
end Go.Proofs.YtfpadnmdafiddaaGreatDoor
