import Derived.Test.YtfpadnmdafiddaaGreatDoorMd
import Derived.Test.YtfpadnmdafiddaaGreatDoorMe
set_option linter.all false
set_option maxHeartbeats 16000000
set_option maxRecDepth 100000
namespace Go.V
open Go Go.RowKit
abbrev wB (x:BitVec 64):Value:=.int .u64 (x.toNat:Int)
theorem ofB (x:BitVec 64):BitVec.ofInt 64 (x.toNat:Int)=x:=by simp
theorem wrapB (x:BitVec 64):IntKind.u64.wrap (x.toNat:Int)=(x.toNat:Int):=fB (M:=18446744073709551616) rfl x.isLt
theorem wrapM (a:Nat):IntKind.u64.wrap (a:Int)=((a%18446744073709551616:Nat):Int):=by
 simp [IntKind.wrap,IntKind.signed,IntKind.bits]
section
variable {P:Program} {n:Nat} {e:dQ} {w:World} {Q:dS} {ops:Array Oper} {rest:List Oper} {d:Nat} {ty:TypeId} {pos:String} {aft:Array Edge} {a b:BitVec 64} {x y:Operand} {t1 t2:TypeId}
theorem TL.addB6 (hx:val e x=some (wB a)) (hy:val e y=some (wB b)) (hd:Nat.blt d n=true) (k:TL P n ops rest ((d,wB (a+b))::e) w Q) :
  TL P n ops (⟨some d,.binOp .add t1 x y t2,ty,pos,aft,none⟩::rest) e w Q :=
 TL.run (λ r hr=>by
  have h:IntKind.u64.wrap ((a.toNat:Int)+(b.toNat:Int))=((a+b).toNat:Int):=by rw [← Int.natCast_add,wrapM,BitVec.toNat_add]
  simp [execOp,binOp,cB,Op.intArith,hr.eval hx,hr.eval hy,h]) hd k
theorem TL.xorB6 (hx:val e x=some (wB a)) (hy:val e y=some (wB b)) (hd:Nat.blt d n=true) (k:TL P n ops rest ((d,wB (a ^^^ b))::e) w Q) :
  TL P n ops (⟨some d,.binOp .xor t1 x y t2,ty,pos,aft,none⟩::rest) e w Q :=
 TL.pure (v:=wB (a ^^^ b)) (by simp only [pureOp,hx,hy,kindEq,cond_true,intOp];show some (Value.int .u64 (IntKind.u64.wrap ((BitVec.ofInt 64 (a.toNat:Int) ^^^ BitVec.ofInt 64 (b.toNat:Int)).toNat:Int)))=_;rw [ofB,ofB,wrapB]) hd k
theorem TL.andB6 (hx:val e x=some (wB a)) (hy:val e y=some (wB b)) (hd:Nat.blt d n=true) (k:TL P n ops rest ((d,wB (a&&&b))::e) w Q) :
  TL P n ops (⟨some d,.binOp .and t1 x y t2,ty,pos,aft,none⟩::rest) e w Q :=
 TL.pure (v:=wB (a&&&b)) (by simp only [pureOp,hx,hy,kindEq,cond_true,intOp];show some (Value.int .u64 (IntKind.u64.wrap ((BitVec.ofInt 64 (a.toNat:Int)&&&BitVec.ofInt 64 (b.toNat:Int)).toNat:Int)))=_;rw [ofB,ofB,wrapB]) hd k
theorem TL.orB6 (hx:val e x=some (wB a)) (hy:val e y=some (wB b)) (hd:Nat.blt d n=true) (k:TL P n ops rest ((d,wB (a|||b))::e) w Q) :
  TL P n ops (⟨some d,.binOp .or t1 x y t2,ty,pos,aft,none⟩::rest) e w Q :=
 TL.pure (v:=wB (a|||b)) (by simp only [pureOp,hx,hy,kindEq,cond_true,intOp];show some (Value.int .u64 (IntKind.u64.wrap ((BitVec.ofInt 64 (a.toNat:Int)|||BitVec.ofInt 64 (b.toNat:Int)).toNat:Int)))=_;rw [ofB,ofB,wrapB]) hd k
theorem TL.notB6 (hx:val e x=some (wB a)) (hd:Nat.blt d n=true) (k:TL P n ops rest ((d,wB (~~~a))::e) w Q) :
  TL P n ops (⟨some d,.unOp .xor t1 x,ty,pos,aft,none⟩::rest) e w Q :=
 TL.run (λ r hr=>by
  have h:Op.unary .xor (wB a)=(Pure.pure (wB (~~~a)):Sem Value):=by
   show (Pure.pure (Value.int .u64 (IntKind.u64.wrap ((BitVec.ofInt 64 _ ^^^ BitVec.ofInt 64 (a.toNat:Int)).toNat:Int))):Sem Value)=_
   rw [ofB]
   have:BitVec.ofInt 64 (if IntKind.u64.signed=true then -1 else IntKind.u64.max)=BitVec.allOnes 64:=by decide
   rw [this,BitVec.allOnes_xor,wrapB]
  simp [execOp,hr.eval hx,h]) hd k
theorem TL.shlB6 {s:Nat} {zs:Int} {ky:IntKind} (hx:val e x=some (wB a)) (hy:val e y=some (.int ky zs)) [iy:Lit zs s] (hs:s≤64) (hd:Nat.blt d n=true) (k:TL P n ops rest ((d,wB (a<<<s))::e) w Q) :
  TL P n ops (⟨some d,.binOp .shl t1 x y t2,ty,pos,aft,none⟩::rest) e w Q :=
 TL.run (λ r hr=>by
  rw [iy.h] at hy
  have h3:min s IntKind.u64.bits=s:=Nat.min_eq_left hs
  have h4:¬ ((s:Int)<0):=by omega
  have h:IntKind.u64.wrap ((a.toNat:Int)*2^s)=((a<<<s).toNat:Int):=by
   rw [show (a.toNat:Int)*2^s=((a.toNat*2^s:Nat):Int) by simp,wrapM,BitVec.toNat_shiftLeft,Nat.shiftLeft_eq]
  simp only [execOp,binOp,cB,Op.shift,hr.eval hx,hr.eval hy]
  simp [h3,h4,h]) hd k
theorem TL.shrB6 {s:Nat} {zs:Int} {ky:IntKind} (hx:val e x=some (wB a)) (hy:val e y=some (.int ky zs)) [iy:Lit zs s] (hs:s≤64) (hd:Nat.blt d n=true) (k:TL P n ops rest ((d,wB (a>>>s))::e) w Q) :
  TL P n ops (⟨some d,.binOp .shr t1 x y t2,ty,pos,aft,none⟩::rest) e w Q :=
 TL.run (λ r hr=>by
  rw [iy.h] at hy
  have h3:min s IntKind.u64.bits=s:=Nat.min_eq_left hs
  have h4:¬ ((s:Int)<0):=by omega
  have h:(a.toNat:Int).fdiv (2^s)=((a>>>s).toNat:Int):=by
   rw [Int.fdiv_eq_ediv_of_nonneg _ (by exact_mod_cast Nat.zero_le (2^s)),BitVec.toNat_ushiftRight,Nat.shiftRight_eq_div_pow]
   simp
  simp only [execOp,binOp,cB,Op.shift,hr.eval hx,hr.eval hy]
  simp [h3,h4,h]) hd k
theorem TL.convZ6 {z z':Int} {s t:TypeId} {k1 k2 kd:IntKind} [hs:IntTy P s k1] [ht:IntTy P t k2] (hx:val e x=some (.int kd z)) (h:k2.wrap z=z') (hd:Nat.blt d n=true)
  (k:TL P n ops rest ((d,.int k2 z')::e) w Q):TL P n ops (⟨some d,.convert s t x,ty,pos,aft,none⟩::rest) e w Q :=
 TL.run (λ r hr=>by simp [execOp,hr.eval hx,jB hs ht,h]) hd k
theorem TL.convW8 {c:Nat} {zc:Int} {s t:TypeId} [hs:IntTy P s .u8] [ht:IntTy P t .u64] (hx:val e x=some (.int .u8 zc)) [ix:Lit zc c] (hc:c<256) (hd:Nat.blt d n=true) (k:TL P n ops rest ((d,wB (BitVec.ofNat 64 c))::e) w Q) :
  TL P n ops (⟨some d,.convert s t x,ty,pos,aft,none⟩::rest) e w Q :=
 TL.run (λ r hr=>by
  rw [ix.h] at hx
  have h:IntKind.u64.wrap (c:Int)=((BitVec.ofNat 64 c).toNat:Int):=by rw [wrapM,BitVec.toNat_ofNat]
  simp [execOp,hr.eval hx,jB hs ht,h]) hd k
end
def rotl (x:BitVec 64) (s:Nat):BitVec 64:=(x<<<s)|||(x>>>(64-s))
attribute [irreducible] rotl
def rotA (k:Int):Nat:=(BitVec.ofInt 64 (IntKind.u64.wrap k)&&&BitVec.ofInt 64 63).toNat
theorem rotA_le (k:Int):rotA k≤64:=by
 unfold rotA
 rw [BitVec.toNat_and]
 exact Nat.le_trans Nat.and_le_right (by decide)
end Go.V
namespace Go.Proofs.YtfpadnmdafiddaaGreatDoor
open Go Go.RowKit Go.V
theorem rotl_c (x:BitVec 64) (k:Int) (w:World) :
  Calls Tryz.prog 270 #[wB x,.int .i64 k] w (Ret λ v w'=>v=wB (rotl x (rotA k))∧w'=w):=by
 have hk:IntKind.u64.wrap (BitVec.ofInt 64 (IntKind.u64.wrap k)&&&BitVec.ofInt 64 63).toNat=(rotA k:Int):=wrapB _
 have hs:=rotA_le k
 generalize rotA k=s at *
 refine V.calls (args:=[_,_]) Tryz.func270 rfl Tryz.ntmps270 rfl rfl ?_
 unfold rotl
 repeat (first|(refine aB ?_;refine TL.pure rfl rfl ?_)|(refine aD ?_;refine TL.pure rfl rfl ?_)|refine TL.nil ?_|refine aA ?_|refine aJ ?_|refine aC ?_)
 refine TL.convZ6 rfl rfl rfl ?_
 refine TL.pure (v:=.int .u64 (s:Int)) (congrArg (λ z=>some (Value.int .u64 z)) hk) rfl ?_
 repeat (first|refine TL.shlB6 rfl rfl hs rfl ?_|(refine fZ ?_;refine TL.shrB6 rfl rfl (by omega) rfl ?_)|refine TL.orB6 rfl rfl rfl ?_|(refine cN ?_;refine TL.subU rfl rfl rfl (by omega) (by omega) rfl ?_)|(refine aB ?_;refine TL.pure rfl rfl ?_)|(refine aD ?_;refine TL.pure rfl rfl ?_)|refine TL.nil ?_|refine aA ?_|refine aJ ?_|refine aC ?_|refine bE ?_)
 exact cI rfl ⟨_,rfl,rfl,rfl⟩
end Go.Proofs.YtfpadnmdafiddaaGreatDoor
namespace Go.Proofs.YtfpadnmdafiddaaGreatDoor
open Go Go.RowKit Go.V
def be (l:List Nat):BitVec 64:=l.foldl (λ x b=>(x<<<8)|||BitVec.ofNat 64 b) 0#64
def part (bs:List Nat) (i:Nat):List (BitVec 64):=(List.range 80).map λ j=>be (((bs.take i).drop (8*j)).take 8)
theorem lF (bs:List Nat) (i:Nat):(part bs i).length=80:=by simp [part]
theorem part_at (bs:List Nat) (i:Nat) {j:Nat} (h:j<80):(part bs i).getD j 0#64=be (((bs.take i).drop (8*j)).take 8):=by
 rw [List.getD_eq_getElem?_getD,part,List.getElem?_map,List.getElem?_range h];rfl
theorem part_zero (bs:List Nat):part bs 0=List.replicate 80 0#64:=by
 apply List.ext_getElem?
 intro j
 by_cases h:j<80
 ·rw [part,List.getElem?_map,List.getElem?_range h,List.getElem?_replicate,if_pos h];simp [be]
 ·rw [List.getElem?_eq_none (by rw [lF];omega),List.getElem?_eq_none (by simp;omega)]
theorem part_step {bs:List Nat} {i:Nat} (hi:i<128) (hl:bs.length=128):(part bs i).set (i / 8) (((part bs i).getD (i / 8) 0#64<<<8)|||BitVec.ofNat 64 (bs.getD i 0))=part bs (i+1):=by
 apply List.ext_getElem?
 intro j
 have htk:bs.take (i+1)=bs.take i++[bs.getD i 0]:=by rw [List.getD_eq_getElem?_getD,List.getElem?_eq_getElem (by omega)];simp only [Option.getD_some];exact (List.take_append_getElem (by omega)).symm
 by_cases h:j<80
 ·have e2:(part bs (i+1))[j]? = some (be (((bs.take (i+1)).drop (8*j)).take 8)):=by rw [part,List.getElem?_map,List.getElem?_range h];rfl
  have e1:(part bs i)[j]? = some (be (((bs.take i).drop (8*j)).take 8)):=by rw [part,List.getElem?_map,List.getElem?_range h];rfl
  have hlen:(bs.take i).length=i:=by rw [List.length_take];omega
  rw [e2]
  by_cases hj:i / 8=j
  ·subst hj
   rw [List.getElem?_set_self (by rw [lF];omega),part_at _ _ h,htk,List.drop_append_of_le_length (by omega)]
   have h1:((bs.take i).drop (8*(i / 8))).length≤7:=by rw [List.length_drop,hlen];omega
   rw [List.take_of_length_le (l:=(bs.take i).drop (8*(i / 8))) (by omega),List.take_of_length_le (l:=(bs.take i).drop (8*(i / 8))++[bs.getD i 0]) (by rw [List.length_append];simp only [List.length_singleton];omega)]
   simp only [be,List.foldl_append,List.foldl_cons,List.foldl_nil]
  ·rw [List.getElem?_set_ne hj,e1,htk]
   rcases Nat.lt_or_gt_of_ne hj with hj|hj
   ·rw [List.drop_eq_nil_of_le (by rw [hlen];omega),List.drop_eq_nil_of_le (by rw [List.length_append,hlen];simp only [List.length_singleton];omega)]
   ·rw [List.drop_append_of_le_length (by omega),List.take_append_of_le_length (by rw [List.length_drop,hlen];omega)]
 ·rw [List.getElem?_eq_none (by rw [List.length_set,lF];omega),List.getElem?_eq_none (by rw [lF];omega)]
attribute [irreducible] part
def sg0 (x:BitVec 64):BitVec 64:=rotl x (rotA (-1)) ^^^ rotl x (rotA (-8)) ^^^ (x>>>7)
def sg1 (x:BitVec 64):BitVec 64:=rotl x (rotA (-19)) ^^^ rotl x (rotA (-61)) ^^^ (x>>>6)
def nextW (r:List (BitVec 64)) (t:Nat):BitVec 64:=r.getD (t-16) 0#64+sg0 (r.getD (t-15) 0#64)+r.getD (t-7) 0#64+sg1 (r.getD (t-2) 0#64)
def sched:Nat→List (BitVec 64)→List (BitVec 64)
 | 0,ws=>ws
 | n+1,ws=>(sched n ws).set (n+16) (nextW (sched n ws) (n+16))
theorem sched_len (n:Nat) (ws:List (BitVec 64)):(sched n ws).length=ws.length:=by induction n<;>simp [sched, *]
theorem wcell {ws:List (BitVec 64)} {j:Nat} (h:j<ws.length):(ws.map wB)[j]? = some (wB (ws.getD j 0#64)):=by
 simp [List.getD_eq_getElem?_getD,h]
theorem map_set (ws:List (BitVec 64)) (j:Nat) (x:BitVec 64):(ws.map wB).set j (wB x)=(ws.set j x).map wB:=by rw [List.map_set]
def pbs (bs:List Nat):List Value:=bs.map λ (b:Nat)=>Value.int .u8 (b:Int)
theorem pbs_at {bs:List Nat} {j:Nat} (h:j<bs.length):(pbs bs)[j]? = some (.int .u8 ((bs.getD j 0:Nat):Int)):=by
 simp [pbs,List.getD_eq_getElem?_getD,h]
instance:Zero Tryz.prog 340 (.agg ((List.replicate 80 0#64).map wB).toArray):=⟨by kernel_rfl⟩
theorem schedule_c (bs:List Nat) (hl:bs.length=128) (hb:∀ b∈bs,b<256) (w:World):Calls Tryz.prog 268 #[.agg (pbs bs).toArray] w
  (Ret λ v w'=>v=.agg ((sched 64 (part bs 128)).map wB).toArray∧Grow w w'):=by
 refine V.calls (args:=[_]) Tryz.func268 rfl Tryz.ntmps268 rfl rfl ?_
 have hpl:(pbs bs).length=128:=by simp [pbs,hl]
 repeat (first|refine TL.nil ?_|refine aA ?_|refine aJ ?_|refine aC ?_|(refine cD ?_;(refine dP rfl rfl ?_;intro bk w' hg hbk hsz hsz'))|(refine bF ?_;(refine TL.alloc rfl rfl ?_;intro bk w' hg hbk hsz hsz')))
 refine bK rfl yB (by rw [hpl];rfl) rfl ?_
 rename_i bp wp hgp hbp hszp hszp' br wr hgr hbr hszr hszr'
 have hr2:bk≠br∧w.heap.size≤br∧w.heap.size≤bk:=by omega
 have hbr':=hbr.grow hg
 replace hg:Grow w w':=by exact yG
 clear hgp hgr hbp hbr
 have hb0:Blk w' bk 340 ((part bs 0).map wB):=by rw [part_zero];exact hbk
 repeat (first|(refine aB ?_;refine TL.pure rfl rfl ?_)|refine TL.nil ?_|refine aA ?_|refine T.block ?_)
 refine cU (S:=Nat) (λ i=>[(12,.int .i64 (i:Int)),(11,.agg (pbs bs).toArray),(3,.pointer (some ⟨bk,0,none⟩)),(2,.pointer (some ⟨br,0,none⟩))])
  (λ i w6=>i≤128∧Blk w6 bk 340 ((part bs i).map wB)∧w6.heap.size=w'.heap.size∧Grow w w6∧Upd bk w' w6) (λ i=>128-i) 0 ⟨rfl,rfl,rfl,rfl,trivial⟩ ⟨Nat.zero_le _,hb0,rfl,hg,Upd.refl _ _⟩ ?_
 rintro i w6 ⟨hi,hb6,hs6,hg6,hu6⟩
 by_cases hik:i<128
 ·have ht:(decide ((i:Int)<128))=true:=decide_eq_true (by omega)
  have hpi:=lF bs i
  have hbi:bs.getD i 0<256:=by rw [List.getD_eq_getElem?_getD,List.getElem?_eq_getElem (by omega)];exact hb _ (List.getElem_mem _)
  have hps:=part_step hik hl
  repeat (first|(refine aB ?_;refine TL.pure rfl rfl ?_)|refine TL.nil ?_|refine aA ?_|refine aJ ?_|refine aC ?_|refine T.block ?_|(refine aH ?_;refine aZ rfl yD rfl ?_)|refine aM rfl ?_|refine aW ?_)
  refine TL.indexV rfl rfl (by omega) rfl (pbs_at (by omega)) rfl ?_
  generalize bs.getD i 0=bi at *
  repeat (first|(refine aY ?_;refine aK rfl (Blk.cell hb6 (wcell (by omega))) rfl ?_)|(refine TL.isShl ?_;refine TL.shlB6 rfl rfl (by decide) rfl ?_)|refine TL.convW8 rfl hbi rfl ?_|refine TL.orB6 rfl rfl rfl ?_|(refine aB ?_;refine TL.pure rfl rfl ?_)|(refine aD ?_;refine TL.pure rfl rfl ?_)|(refine bC ?_;refine eY rfl rfl (by omega) rfl ?_)|refine TL.nil ?_|refine aA ?_|refine aC ?_|(refine kB ?_;refine mF rfl rfl (by omega) (by omega) rfl ?_))
  (refine bQ rfl rfl hb6 rfl (by rw [List.length_map,hpi];exact Nat.ble_eq_true_of_le (by omega)) (map_set _ _ _) ?_;intro w7 hu7 hb7 hs7)
  rw [hps] at hb7
  clear hps hpi hbi
  replace hg6:=aX hu7 (by omega) hg6
  replace hu6:=hu6.trans hu7
  clear hu7 hb6
  repeat (first|(refine aB ?_;refine TL.pure rfl rfl ?_)|(refine bL ?_;refine bT rfl rfl (by omega) rfl ?_)|refine TL.nil ?_|refine aA ?_|refine aC ?_|refine aS ?_)
  exact bG (i+1) ⟨rfl,rfl,rfl,rfl,trivial⟩ ⟨hik,hb7,by omega,hg6,hu6⟩ (by omega)
 ·obtain rfl:i=128:=by omega
  have ht:(decide (((128:Nat):Int)<128))=false:=by decide
  have hbr6:=hbr'.upd hu6 (by omega)
  clear hb0 hbr' hu6 hi hik
  have hpl0:=lF bs 128
  obtain ⟨ws,hws⟩:∃ ws,ws=part bs 128:=⟨_,rfl⟩
  rw [← hws] at hb6 hpl0 ⊢
  repeat (first|(refine aD ?_;refine TL.pure rfl rfl ?_)|refine TL.nil ?_|refine aA ?_|refine aJ ?_|refine aC ?_|refine T.block ?_|(refine aH ?_;refine aQ rfl yD rfl ?_)|refine aE rfl ?_|refine cV ?_|refine bN ?_|refine bP ?_|refine bO ?_)
  refine cU (S:=Nat) (λ t=>[(6,.int .i64 ((t+16:Nat):Int)),(3,.pointer (some ⟨bk,0,none⟩)),(2,.pointer (some ⟨br,0,none⟩))])
   (λ t w7=>t≤64∧Blk w7 bk 340 ((sched t ws).map wB)∧Blk w7 br 340 (Value.agg ((List.replicate 80 0#64).map wB).toArray).cells.toList∧Grow w w7) (λ t=>64-t) 0 ⟨rfl,rfl,rfl,trivial⟩ ⟨Nat.zero_le _,hb6,hbr6,hg6⟩ ?_
  clear hb6 hg6 hbr6 hs6 hbk hg hszp hszp' hszr' hsz' hb ht hpl
  rintro t w7 ⟨ht',hb7,hbr7,hg7⟩
  by_cases htk:t<64
  ·have htc:(decide (((t+16:Nat):Int)<80))=true:=decide_eq_true (by omega)
   have hln:(sched t ws).length=80:=by rw [sched_len,hpl0]
   repeat (first|(refine aB ?_;refine TL.pure rfl rfl ?_)|refine TL.nil ?_|refine aA ?_|refine aJ ?_|refine aC ?_|refine T.block ?_|(refine aH ?_;refine aZ rfl yD rfl ?_)|refine aM rfl ?_|refine aW ?_)
   apply T.any 10 [is _,is _,is _,is _,is _,is _,is _,is _,is _,is _];(· kernel_rfl);(· ((repeat' (first|exact bW|refine bU ?_ ?_));(iterate 10 (· ((refine aR rfl rfl rfl ?_);( intro wq _ _ hgq;(repeat (refine aG rfl rfl ?_;intro vq hvq;try (obtain rfl:=hvq)));(refine aN ?_));(repeat (first|(refine aB ?_;refine TL.pure rfl rfl ?_)|(refine aD ?_;refine TL.pure rfl rfl ?_)|(refine bC ?_;refine eY rfl rfl (by omega) rfl ?_)|(refine cN ?_;refine dN rfl rfl (by omega) (by omega) rfl ?_)|refine TL.nil ?_|(refine aY ?_;refine aK rfl (Blk.cell yB (wcell (by omega))) rfl ?_)));exact aT rfl yG rfl)))));(rintro _ _ _ hgr _ _;(repeat (refine aG rfl rfl ?_;intro vq hvq;try (obtain rfl:=hvq)));(refine aN ?_))
   have hb8:=hb7.grow hgr
   have hbr8:=hbr7.grow hgr
   replace hg7:=hg7.trans hgr
   clear hgr hb7 hbr7
   repeat (first|(refine aL 270 ?_;refine aI rfl (rotl_c _ _ _) rfl ?_;rintro _ _ ⟨rfl,rfl⟩)|refine TL.xorB6 rfl rfl rfl ?_|(refine fZ ?_;refine TL.shrB6 rfl rfl (by decide) rfl ?_)|(refine aB ?_;refine TL.pure rfl rfl ?_)|(refine aD ?_;refine TL.pure rfl rfl ?_)|refine TL.nil ?_|refine aA ?_|refine aJ ?_|refine aC ?_)
   apply T.any 14 [is _,is _,is _,is _,is _,is _,is _,is _,is _,is _,is _,is _,is _,is _];(· kernel_rfl);(· ((repeat' (first|exact bW|refine bU ?_ ?_));(iterate 14 (· ((refine aR rfl rfl rfl ?_);( intro wq _ _ hgq;(repeat (refine aG rfl rfl ?_;intro vq hvq;try (obtain rfl:=hvq)));(refine aN ?_));(repeat (first|(refine aY ?_;refine aK rfl (Blk.cell yB (wcell (by omega))) rfl ?_)|refine TL.addB6 rfl rfl rfl ?_|(refine aB ?_;refine TL.pure rfl rfl ?_)|(refine bC ?_;refine eY rfl rfl (by omega) rfl ?_)|(refine cN ?_;refine dN rfl rfl (by omega) (by omega) rfl ?_)|refine TL.nil ?_));exact aT rfl yG rfl)))));(rintro _ _ _ hgr _ _;(repeat (refine aG rfl rfl ?_;intro vq hvq;try (obtain rfl:=hvq)));(refine aN ?_))
   have hb9:=hb8.grow hgr
   have hbr9:=hbr8.grow hgr
   replace hg7:=hg7.trans hgr
   clear hgr hb8 hbr8
   repeat (first|(refine aP ?_;refine bQ rfl rfl hb9 rfl (by rw [List.length_map,hln];exact Nat.ble_eq_true_of_le (by omega)) (map_set _ _ _) ?_;intro w10 hu10 hb10 hs10;have hbr10:=hbr9.upd hu10 (by omega);replace hg7:=aX hu10 (by omega) hg7;clear hu10 hb9 hbr9)|(refine aB ?_;refine TL.pure rfl rfl ?_)|(refine aD ?_;refine TL.pure rfl rfl ?_)|(refine bC ?_;refine eY rfl rfl (by omega) rfl ?_)|(refine bL ?_;refine bT rfl rfl (by omega) rfl ?_)|refine TL.nil ?_|refine aA ?_|refine aC ?_|refine aS ?_)
   refine bG (t+1) ⟨rfl,rfl,rfl,trivial⟩ ⟨htk,?_,hbr10,hg7⟩ (by omega)
   simp only [sched,nextW,sg0,sg1]
   exact hb10
  ·obtain rfl:t=64:=by omega
   have htc:(decide (((64+16:Nat):Int)<80))=false:=by decide
   have hln:(sched 64 ws).length=80:=by rw [sched_len,hpl0]
   obtain ⟨sw,hsw⟩:∃ sw,sw=sched 64 ws:=⟨_,rfl⟩
   rw [← hsw] at hb7 hln
   repeat (first|(refine aY ?_;refine bK rfl hb7 (by rw [List.length_map,hln];rfl) rfl ?_)|(refine aP ?_;refine bA rfl rfl hbr7 (by rw [List.length_map,hln];rfl) rfl (by simp [Value.oneCell']) ?_;intro w8 hu8 hb8 hs8)|(refine aB ?_;refine TL.pure rfl rfl ?_)|refine TL.nil ?_|refine aA ?_|refine aJ ?_|refine aC ?_|(refine aH ?_;refine aQ rfl yD rfl ?_)|refine aE rfl ?_|refine bE ?_|refine cV ?_|refine bN ?_|refine bP ?_|refine bO ?_)
   rw [← hsw]
   exact retC rfl (bV hb8 (by rw [List.length_map,hln];rfl)) ⟨_,rfl,rfl,aX hu8 (by omega) hg7⟩
end Go.Proofs.YtfpadnmdafiddaaGreatDoor
namespace Go.Proofs.YtfpadnmdafiddaaGreatDoor
open Go Go.RowKit Go.V
set_option maxRecDepth 20000
def Kw:List (BitVec 64):=[0x428a2f98d728ae22#64,0x7137449123ef65cd#64,0xb5c0fbcfec4d3b2f#64,0xe9b5dba58189dbbc#64,0x3956c25bf348b538#64,0x59f111f1b605d019#64,0x923f82a4af194f9b#64,0xab1c5ed5da6d8118#64,0xd807aa98a3030242#64,0x12835b0145706fbe#64,0x243185be4ee4b28c#64,0x550c7dc3d5ffb4e2#64,0x72be5d74f27b896f#64,0x80deb1fe3b1696b1#64,0x9bdc06a725c71235#64,0xc19bf174cf692694#64,0xe49b69c19ef14ad2#64,0xefbe4786384f25e3#64,0x0fc19dc68b8cd5b5#64,0x240ca1cc77ac9c65#64,0x2de92c6f592b0275#64,0x4a7484aa6ea6e483#64,0x5cb0a9dcbd41fbd4#64,0x76f988da831153b5#64,0x983e5152ee66dfab#64,0xa831c66d2db43210#64,0xb00327c898fb213f#64,0xbf597fc7beef0ee4#64,0xc6e00bf33da88fc2#64,0xd5a79147930aa725#64,0x06ca6351e003826f#64,0x142929670a0e6e70#64,0x27b70a8546d22ffc#64,0x2e1b21385c26c926#64,0x4d2c6dfc5ac42aed#64,0x53380d139d95b3df#64,0x650a73548baf63de#64,0x766a0abb3c77b2a8#64,0x81c2c92e47edaee6#64,0x92722c851482353b#64,0xa2bfe8a14cf10364#64,0xa81a664bbc423001#64,0xc24b8b70d0f89791#64,0xc76c51a30654be30#64,0xd192e819d6ef5218#64,0xd69906245565a910#64,0xf40e35855771202a#64,0x106aa07032bbd1b8#64,0x19a4c116b8d2d0c8#64,0x1e376c085141ab53#64,0x2748774cdf8eeb99#64,0x34b0bcb5e19b48a8#64,0x391c0cb3c5c95a63#64,0x4ed8aa4ae3418acb#64,0x5b9cca4f7763e373#64,0x682e6ff3d6b2b8a3#64,0x748f82ee5defb2fc#64,0x78a5636f43172f60#64,0x84c87814a1f0ab72#64,0x8cc702081a6439ec#64,0x90befffa23631e28#64,0xa4506cebde82bde9#64,0xbef9a3f7b2c67915#64,0xc67178f2e372532b#64,0xca273eceea26619c#64,0xd186b8c721c0c207#64,0xeada7dd6cde0eb1e#64,0xf57d4f7fee6ed178#64,0x06f067aa72176fba#64,0x0a637dc5a2c898a6#64,0x113f9804bef90dae#64,0x1b710b35131c471b#64,0x28db77f523047d84#64,0x32caab7b40c72493#64,0x3c9ebe0a15c9bebc#64,0x431d67c49c100d4c#64,0x4cc5d4becb3e42b6#64,0x597f299cfc657e2a#64,0x5fcb6fab3ad6faec#64,0x6c44198c4a475817#64]
theorem K_c (w:World):Calls Tryz.prog 269 #[] w (Ret λ v w'=>v=.agg (Kw.map wB).toArray∧Grow w w'):=by
 refine V.calls (args:=[]) Tryz.func269 rfl Tryz.ntmps269 rfl rfl ?_
 refine aJ ?_
 refine aC ?_
 refine TL.alloc rfl rfl ?_
 intro bk w1 hg1 hb1 hsz hsz'
 refine TL.nil ?_
 refine aA ?_
 refine aJ ?_
 refine aC ?_
 refine mI (cs:=Kw.map wB) rfl (by kernel_rfl) rfl ?_
 (refine bA rfl rfl hb1 rfl rfl rfl ?_;intro w2 hu2 hb2 hs2)
 refine TL.nil ?_
 refine aA ?_
 refine bE ?_
 exact retC rfl (bV hb2 rfl) ⟨_,rfl,rfl,aX hu2 (by omega) hg1⟩
structure St where
 (a b c d e f g h:BitVec 64)
def bs0 (x:BitVec 64):BitVec 64:=rotl x (rotA (-28)) ^^^ rotl x (rotA (-34)) ^^^ rotl x (rotA (-39))
def bs1 (x:BitVec 64):BitVec 64:=rotl x (rotA (-14)) ^^^ rotl x (rotA (-18)) ^^^ rotl x (rotA (-41))
def tOne (s:St) (k w:BitVec 64):BitVec 64:=s.h+bs1 s.e+((s.e&&&s.f) ^^^ (~~~s.e&&&s.g))+k+w
def tTwo (s:St):BitVec 64:=bs0 s.a+((s.a&&&s.b) ^^^ (s.a&&&s.c) ^^^ (s.b&&&s.c))
def rnd (s:St) (k w:BitVec 64):St:=⟨tOne s k w+tTwo s,s.a,s.b,s.c,s.d+tOne s k w,s.e,s.f,s.g⟩
def rnK (ks ws:List (BitVec 64)) (s:St):Nat→St
 | 0=>s
 | t+1=>rnd (rnK ks ws s t) (ks.getD t 0#64) (ws.getD t 0#64)
def rn (ws:List (BitVec 64)) (s:St):Nat→St:=rnK Kw ws s
def St.l (s:St):List (BitVec 64):=[s.a,s.b,s.c,s.d,s.e,s.f,s.g,s.h]
def addL (st s:List (BitVec 64)):Nat→List (BitVec 64)
 | 0=>st
 | q+1=>(addL st s q).set q ((addL st s q).getD q 0#64+s.getD q 0#64)
theorem addL_len (st s:List (BitVec 64)) (q:Nat):(addL st s q).length=st.length:=by induction q<;>simp [addL, *]
def pieceB (s:St) (bs:List Nat):List (BitVec 64):=addL s.l (rn (sched 64 (part bs 128)) s 80).l 8
theorem piece_c (s:St) (bs:List Nat) (hl:bs.length=128) (hb:∀ b∈bs,b<256) (w:World):Calls Tryz.prog 251 #[.agg (s.l.map wB).toArray,.agg (pbs bs).toArray] w
  (Ret λ v w'=>v=.agg ((pieceB s bs).map wB).toArray∧Grow w w'):=by
 refine V.calls (args:=[_,_]) Tryz.func251 rfl Tryz.ntmps251 rfl rfl ?_
 have hpl:(pbs bs).length=128:=by simp [pbs,hl]
 obtain ⟨ws,hws⟩:∃ ws,ws=sched 64 (part bs 128):=⟨_,rfl⟩
 have hwl:ws.length=80:=by rw [hws,sched_len,lF]
 obtain ⟨ks,hks⟩:∃ ks,ks=Kw:=⟨_,rfl⟩
 have hkl:ks.length=80:=by rw [hks];rfl
 have hsc:∀ w,Calls Tryz.prog 268 #[.agg (pbs bs).toArray] w (Ret λ v w'=>v=.agg (ws.map wB).toArray∧Grow w w'):=by rw [hws];exact schedule_c bs hl hb
 have hkc:∀ w,Calls Tryz.prog 269 #[] w (Ret λ v w'=>v=.agg (ks.map wB).toArray∧Grow w w'):=by rw [hks];exact K_c
 have hpb:pieceB s bs=addL s.l (rnK ks ws s 80).l 8:=by rw [hws,hks];rfl
 have hwo:(ws.map wB).all Value.oneCell'=true:=by simp [Value.oneCell']
 have hko:(ks.map wB).all Value.oneCell'=true:=by simp [Value.oneCell']
 repeat (first|(refine aY ?_;refine bK rfl yB (by rw [hpl];rfl) rfl ?_)|(refine aL 268 ?_;refine aI rfl (hsc _) rfl ?_;rintro _ _ ⟨rfl,hgc⟩)|(refine aL 269 ?_;refine aI rfl (hkc _) rfl ?_;rintro _ _ ⟨rfl,hgc⟩)|(refine aP ?_;refine bA rfl rfl yB (by rw [List.length_map,hwl];rfl) rfl hwo ?_;intro w' hu hbk hsz)|(refine aP ?_;refine bA rfl rfl yB (by rw [List.length_map,hkl];rfl) rfl hko ?_;intro w' hu hbk hsz)|refine TL.nil ?_|refine aA ?_|refine aJ ?_|refine aC ?_|(refine cD ?_;(refine dP rfl rfl ?_;intro bk w' hg hbk hsz hsz'))|(refine bF ?_;(refine TL.alloc rfl rfl ?_;intro bk w' hg hbk hsz hsz')))
 rename_i b2 w2 hg2 hb2 hz2 hz2' b3 w3 hg3 hb3 hz3 hz3' b4 w4 hg4 hb4 hz4 hz4' w5 hg5 w6 b5 w7 hg7 hb5 hz5 hz5' w8 hb6 hz6 w9 hu9 hb9 hz9
 have hsz5:=hg5.2
 have hsz6:=hgc.2
 have h2:Blk w' b2 295 (s.l.map wB):=by exact yB
 have h5:Blk w' b5 340 (ws.map wB):=by exact yB
 have h4:=((((((hb4.grow hg5).grow hgc).grow hg7).grow hg).upd hu9 (by omega)).upd hu (by omega))
 have hlt:w.heap.size≤b2∧w.heap.size≤b4∧b2≠b4∧b2<b5∧b5<bk:=by omega
 have hG:Grow w w':=by exact yG
 clear hg2 hb2 hz2 hz2' hg3 hb3 hz3 hz3' hg4 hb4 hz4 hz4' hg5 hgc hg7 hb5 hz5 hz5' hg hb6 hz6 hu9 hb9 hz9 hu hsz hsz' hsz5 hsz6 hws hsc hks hkc hwo hko hl hb hpl
 refine dD (e':=[(2,.pointer (some ⟨b2,0,none⟩)),(4,.pointer (some ⟨b4,0,none⟩)),(5,.pointer (some ⟨b5,0,none⟩)),(6,.pointer (some ⟨bk,0,none⟩))]) ?_ ⟨rfl,rfl,rfl,rfl,trivial⟩
 repeat (refine aJ ?_)
 apply T.any 12 [is _,is _,is _,is _,is _,is _,is _,is _,is _,is _,is _,is _];(· kernel_rfl);(· ((repeat' (first|exact bW|refine bU ?_ ?_));(iterate 12 (· ((refine aR rfl rfl rfl ?_);( intro wq _ _ hgq;(repeat (refine aG rfl rfl ?_;intro vq hvq;try (obtain rfl:=hvq)));(refine aN ?_));(repeat (first|(refine aD ?_;refine TL.pure rfl rfl ?_)|refine aK rfl yM rfl ?_|(refine bC ?_;refine eY rfl rfl (by omega) rfl ?_)|refine TL.nil ?_));exact aT rfl yG rfl)))));(rintro _ _ _ hgr _ _;(repeat (refine aG rfl rfl ?_;intro vq hvq;try (obtain rfl:=hvq)));(refine aN ?_))
 replace h2:=h2.grow hgr
 replace h4:=h4.grow hgr
 replace h5:=h5.grow hgr
 replace hbk:=hbk.grow hgr
 replace hG:=hG.trans hgr
 clear hgr
 repeat (first|refine TL.nil ?_|refine aA ?_|refine aJ ?_)
 apply T.any 12 [is _,is _,is _,is _,is _,is _,is _,is _,is _,is _,is _,is _];(· kernel_rfl);(· ((repeat' (first|exact bW|refine bU ?_ ?_));(iterate 12 (· ((refine aR rfl rfl rfl ?_);( intro wq _ _ hgq;(repeat (refine aG rfl rfl ?_;intro vq hvq;try (obtain rfl:=hvq)));(refine aN ?_));(repeat (first|(refine aD ?_;refine TL.pure rfl rfl ?_)|refine aK rfl yM rfl ?_|(refine bC ?_;refine eY rfl rfl (by omega) rfl ?_)|refine TL.nil ?_));exact aT rfl yG rfl)))));(rintro _ _ _ hgr _ _;(repeat (refine aG rfl rfl ?_;intro vq hvq;try (obtain rfl:=hvq)));(refine aN ?_))
 replace h2:=h2.grow hgr
 replace h4:=h4.grow hgr
 replace h5:=h5.grow hgr
 replace hbk:=hbk.grow hgr
 replace hG:=hG.trans hgr
 clear hgr
 rename_i wA _ _
 repeat (first|(refine aB ?_;refine TL.pure rfl rfl ?_)|refine TL.nil ?_|refine aA ?_|refine aJ ?_|refine aC ?_|refine T.block ?_)
 refine cU (S:=Nat×St) (λ q=>[(41,.int .i64 (q.1:Int)),(14,wB q.2.h),(13,wB q.2.g),(12,wB q.2.f),(11,wB q.2.e),(10,wB q.2.d),(9,wB q.2.c),(8,wB q.2.b),(7,wB q.2.a),(6,.pointer (some ⟨bk,0,none⟩)),(5,.pointer (some ⟨b5,0,none⟩)),(4,.pointer (some ⟨b4,0,none⟩)),(2,.pointer (some ⟨b2,0,none⟩))])
  (λ q w7=>q.1≤80∧q.2=rnK ks ws s q.1∧Blk w7 b2 295 (s.l.map wB)∧Blk w7 b4 295 (List.replicate 8 (wB 0#64))∧Blk w7 b5 340 (ws.map wB)∧Blk w7 bk 340 (ks.map wB)∧Grow w w7) (λ q=>80-q.1) (0,s) ⟨rfl,rfl,rfl,rfl,rfl,rfl,rfl,rfl,rfl,rfl,rfl,rfl,rfl,trivial⟩ ⟨Nat.zero_le _,rfl,h2,h4,h5,hbk,hG⟩ ?_
 clear h2 h4 h5 hbk hG
 rintro ⟨t,s'⟩ w7 ⟨ht,hs',h2,h4,h5,hbk,hG⟩
 simp only at ht hs'
 by_cases htk:t<80
 ·have htc:(decide ((t:Int)<80))=true:=decide_eq_true (by omega)
  repeat (first|(refine aB ?_;refine TL.pure rfl rfl ?_)|(refine aD ?_;refine TL.pure rfl rfl ?_)|refine TL.nil ?_|refine aA ?_|refine aJ ?_|refine aC ?_|refine T.block ?_|(refine aH ?_;refine aZ rfl yD rfl ?_)|refine aM rfl ?_|refine aW ?_)
  repeat (first|(refine aL 270 ?_;refine aI rfl (rotl_c _ _ _) rfl ?_;rintro _ _ ⟨rfl,rfl⟩)|refine TL.xorB6 rfl rfl rfl ?_|(refine aB ?_;refine TL.pure rfl rfl ?_)|(refine aD ?_;refine TL.pure rfl rfl ?_)|refine TL.nil ?_|refine aA ?_|refine aJ ?_)
  apply T.any 20 [is _,is _,is _,is _,is _,is _,is _,is _,is _,is _,is _,is _,is _,is _,is _,is _,is _,is _,is _,is _];(· kernel_rfl);(· ((repeat' (first|exact bW|refine bU ?_ ?_));(iterate 20 (· ((refine aR rfl rfl rfl ?_);( intro wq _ _ hgq;(repeat (refine aG rfl rfl ?_;intro vq hvq;try (obtain rfl:=hvq)));(refine aN ?_));(repeat (first|(refine aY ?_;first|refine aK rfl (Blk.cell (b:=b5) yB (wcell (by omega))) rfl ?_|refine aK rfl (Blk.cell (b:=bk) yB (wcell (by omega))) rfl ?_)|refine TL.xorB6 rfl rfl rfl ?_|refine TL.addB6 rfl rfl rfl ?_|refine TL.andB6 rfl rfl rfl ?_|refine TL.notB6 rfl rfl ?_|(refine aB ?_;refine TL.pure rfl rfl ?_)|(refine bC ?_;refine eY rfl rfl (by omega) rfl ?_)|refine TL.nil ?_));exact aT rfl yG rfl)))));(rintro _ _ _ hgr _ _;(repeat (refine aG rfl rfl ?_;intro vq hvq;try (obtain rfl:=hvq)));(refine aN ?_))
  replace h2:=h2.grow hgr
  replace h4:=h4.grow hgr
  replace h5:=h5.grow hgr
  replace hbk:=hbk.grow hgr
  replace hG:=hG.trans hgr
  clear hgr
  repeat (first|(refine aL 270 ?_;refine aI rfl (rotl_c _ _ _) rfl ?_;rintro _ _ ⟨rfl,rfl⟩)|refine TL.xorB6 rfl rfl rfl ?_|refine TL.addB6 rfl rfl rfl ?_|refine TL.andB6 rfl rfl rfl ?_|(refine aB ?_;refine TL.pure rfl rfl ?_)|(refine aD ?_;refine TL.pure rfl rfl ?_)|(refine bL ?_;refine bT rfl rfl (by omega) rfl ?_)|refine TL.nil ?_|refine aA ?_|refine aJ ?_|refine aC ?_|refine aS ?_)
  exact bG (t+1,rnd s' (ks.getD t 0#64) (ws.getD t 0#64)) ⟨rfl,rfl,rfl,rfl,rfl,rfl,rfl,rfl,rfl,rfl,rfl,rfl,rfl,trivial⟩ ⟨htk,by rw [hs'];rfl,h2,h4,h5,hbk,hG⟩ (by simp only;omega)
 ·obtain rfl:t=80:=by omega
  have htc:(decide (((80:Nat):Int)<80))=false:=by decide
  repeat (first|(refine aB ?_;refine TL.pure rfl rfl ?_)|refine TL.nil ?_|refine aA ?_|refine aJ ?_|refine aC ?_|refine T.block ?_|(refine aH ?_;refine aQ rfl yD rfl ?_)|refine mI rfl rfl rfl ?_|refine aE rfl ?_|refine cV ?_|refine bN ?_|refine bP ?_|refine bO ?_)
  refine cU (S:=Nat) (λ q=>[(115,.int .i64 (q:Int)),(114,.agg (s'.l.map wB).toArray),(4,.pointer (some ⟨b4,0,none⟩)),(2,.pointer (some ⟨b2,0,none⟩))])
   (λ q w8=>q≤8∧Blk w8 b2 295 ((addL s.l s'.l q).map wB)∧Blk w8 b4 295 (List.replicate 8 (wB 0#64))∧Grow w w8) (λ q=>8-q) 0 ⟨rfl,rfl,rfl,rfl,trivial⟩ ⟨Nat.zero_le _,h2,h4,hG⟩ ?_
  clear h2 h4 h5 hbk hG
  rintro q w8 ⟨hq,h2,h4,hG⟩
  have hal:(addL s.l s'.l q).length=8:=by rw [addL_len];rfl
  by_cases hqk:q<8
  ·have hqc:(decide ((q:Int)<8))=true:=decide_eq_true (by omega)
   repeat (first|(refine TL.isIndexV ?_;refine TL.indexV rfl rfl (by omega) rfl (wcell (by show q<8;omega)) rfl ?_)|(refine aY ?_;refine aK rfl (Blk.cell h2 (wcell (by omega))) rfl ?_)|refine TL.addB6 rfl rfl rfl ?_|(refine aB ?_;refine TL.pure rfl rfl ?_)|(refine aD ?_;refine TL.pure rfl rfl ?_)|(refine bC ?_;refine eY rfl rfl (by omega) rfl ?_)|refine TL.nil ?_|refine aA ?_|refine aJ ?_|refine aC ?_|refine T.block ?_|(refine aH ?_;refine aZ rfl yD rfl ?_)|refine aM rfl ?_|refine aW ?_)
   (refine bQ rfl rfl h2 rfl (by rw [List.length_map,hal];exact Nat.ble_eq_true_of_le (by omega)) (map_set _ _ _) ?_;intro w9 hu9 hb9 hs9)
   replace h4:=h4.upd hu9 (by omega)
   replace hG:=aX hu9 (by omega) hG
   clear hu9 h2
   repeat (first|(refine aB ?_;refine TL.pure rfl rfl ?_)|(refine bL ?_;refine bT rfl rfl (by omega) rfl ?_)|refine TL.nil ?_|refine aA ?_|refine aC ?_|refine aS ?_)
   exact bG (q+1) ⟨rfl,rfl,rfl,rfl,trivial⟩ ⟨hqk,hb9,h4,hG⟩ (by omega)
  ·obtain rfl:q=8:=by omega
   have hqc:(decide (((8:Nat):Int)<8))=false:=by decide
   obtain ⟨rl,hrl⟩:∃ rl,rl=addL s.l s'.l 8:=⟨_,rfl⟩
   rw [← hrl] at h2 hal
   repeat (first|(refine aY ?_;refine bK rfl h2 (by rw [List.length_map,hal];rfl) rfl ?_)|(refine aP ?_;refine bA rfl rfl h4 (by rw [List.length_map,hal];rfl) rfl (by simp [Value.oneCell']) ?_;intro w9 hu9 hb9 hs9)|refine TL.nil ?_|refine aA ?_|refine aJ ?_|refine aC ?_|(refine aH ?_;refine aQ rfl yD rfl ?_)|refine aE rfl ?_|refine bE ?_|refine cV ?_|refine bN ?_|refine bP ?_|refine bO ?_)
   exact retC rfl (bV hb9 (by rw [List.length_map,hal];rfl)) ⟨_,rfl,by rw [hpb,hrl,hs'],aX hu9 (by omega) hG⟩
end Go.Proofs.YtfpadnmdafiddaaGreatDoor
