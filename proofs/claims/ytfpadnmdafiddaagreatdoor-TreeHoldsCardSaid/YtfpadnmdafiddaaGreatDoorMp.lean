import Derived.Test.YtfpadnmdafiddaaGreatDoorMl
import Derived.Test.YtfpadnmdafiddaaGreatDoorMo
import Derived.Test.YtfpadnmdafiddaaGreatDoorMk
import Derived.Lib.Mul64
set_option linter.all false
set_option maxHeartbeats 16000000
set_option maxRecDepth 100000
namespace Go.Proofs.YtfpadnmdafiddaaGreatDoor
open Go Go.RowKit Go.V
section
variable [Rn]
variable {P:Program} {n:Nat} {e:dQ} {w w':World} {Q:dS} {ops:Array Oper} {rest:List Oper} {d:Nat} {ty:TypeId} {pos:String} {aft:Array Edge}
def zs (n:Nat):Bs:=List.replicate n 0
theorem iG (m:Nat) {t:TypeId} (hz:(P.info? t).bind (·.zero)=some (.agg (cX (zs m)).toArray)) (hd:Nat.blt d n=true)
  (k:∀ b w',Grow w w'→Blk w' b t (cX (zs m))→w.heap.size=b→w'.heap.size=b+1→TL P n ops rest ((d,.pointer (some ⟨b,0,none⟩))::e) w' Q) :
  TL P n ops (⟨some d,.alloc t,ty,pos,aft,none⟩::rest) e w Q:=@TL.alloc _ P n e w Q ops rest d ty pos aft t _ (cX (zs m)) ⟨hz⟩ rfl hd k
theorem TL.loadBy {t bt:TypeId} {m b:Nat} {x:Operand} {l:Bs} [ht:Agg P t m] (hx:val e x=some (.pointer (some ⟨b,0,none⟩))) (hb:Blk w b bt (cX l)) (hl:l.length=m) (hd:Nat.blt d n=true)
  (k:TL P n ops rest ((d,.agg (cX l).toArray)::e) w Q):TL P n ops (⟨some d,.load t x,ty,pos,aft,none⟩::rest) e w Q :=
 bK hx hb (by rw [dA,hl];exact Nat.beq_refl m) hd k
theorem iZ {t bt:TypeId} {m b:Nat} {x y:Operand} {l v:Bs} [ht:Agg P t m] (hx:val e x=some (.pointer (some ⟨b,0,none⟩))) (hy:val e y=some (.agg (cX v).toArray)) (hb:Blk w b bt (cX l)) (hl:l.length=m) (hv:v.length=m)
  (k:∀ w',Upd b w w'→Blk w' b bt (cX v)→w'.heap.size=w.heap.size→TL P n ops rest e w' Q):TL P n ops (⟨none,.store t x y,ty,pos,aft,none⟩::rest) e w Q :=
 bA hx hy hb (by rw [dA,hv];exact Nat.beq_refl m) (by rw [dA,hl];exact Nat.beq_refl m) (List.all_eq_true.2 (eD v)) k
theorem TL.loadAll {t m:Nat} {x:Operand} {a:Option Addr} {F:Nat→Prop} {c:Nat} {cs:List Value} [ht:Agg P t m] (hx:val e x=some (.pointer a)) (hs:Sl F w 1 a m c cs) (hm:Nat.ble 1 m=true) (hd:Nat.blt d n=true)
  (k:TL P n ops rest ((d,.agg cs.toArray)::e) w Q):TL P n ops (⟨some d,.load t x,ty,pos,aft,none⟩::rest) e w Q:=by
 have hm:=Nat.le_of_ble_eq_true hm
 cases a with
 | none=>have:=hs.nil rfl;have:=hs.cap;omega
 | some p =>
  have hl:=hs.len
  exact TL.run (λ r hr=>by simp [execOp,Instr.loadAt,hr.eval hx,Instr.sureAddr,iS ht (by omega) (hs.row.cell_add rfl)]) hd k
theorem putAt_eq:∀ (vs cs:List Value) (o:Nat),o+vs.length≤cs.length→jC cs o vs=cs.take o++vs++cs.drop (o+vs.length)
 | [],cs,o,_=>by simp [jC]
 | v::vs,cs,o,h=>by
  simp only [List.length_cons] at h
  have hlt:o<cs.length:=by omega
  rw [jC,putAt_eq vs (cs.set o v) (o+1) (by simp;omega)]
  have e1:(cs.set o v).take (o+1)=cs.take o++[v]:=by
   rw [List.take_succ_eq_append_getElem (by simpa using hlt),List.take_set_of_le (Nat.le_refl _)]
   simp
  have e2:(cs.set o v).drop (o+1+vs.length)=cs.drop (o+(v::vs).length):=by
   rw [List.drop_set_of_lt (by omega)]
   congr 1
   simp only [List.length_cons]
   omega
  rw [e1,e2]
  simp
theorem putAt_bys {l v:Bs} {o:Nat} (h:o+v.length≤l.length):jC (cX l) o (cX v)=cX (l.take o++v++l.drop (o+v.length)):=by
 rw [putAt_eq _ _ _ (by simpa [dA] using h),dA]
 simp [cX,List.map_take,List.map_drop]
theorem lD {b o m c:Nat} {t:TypeId} {l:Bs} (hb:Blk w b t (cX l)) (hm:o+m≤l.length) (hc:m≤c) (hc2:c≤maxLen):Sl (λ k=>k=b) w 1 (some ⟨b,o,none⟩) m c (cX ((l.drop o).take m)) :=
 ⟨by rw [dA,List.length_take,List.length_drop];omega,hc,hc2,(λ h=>by cases h),λ _=>⟨rfl,rfl,hb.lt,λ j v hj=>hb.cell (by
  unfold cX at *
  rw [List.getElem?_map,List.getElem?_take] at hj
  split at hj
  ·rw [List.getElem?_drop] at hj
   rw [List.getElem?_map]
   exact hj
  ·cases hj)⟩⟩
end
theorem zero_sector:(Tryz.prog.info? 247).bind (·.zero)=some (.agg (cX (zs 256)).toArray):=by kernel_rfl
theorem zero_page:(Tryz.prog.info? 197).bind (·.zero)=some (.agg (cX (zs 512)).toArray):=by kernel_rfl
theorem zero_dig:(Tryz.prog.info? 243).bind (·.zero)=some (.agg (cX (zs 32)).toArray):=by kernel_rfl
theorem dZ (n:Nat):(zs n).length=n:=List.length_replicate
instance:PtrTy Tryz.prog 118:=⟨by kernel_rfl⟩
instance:MapTy Tryz.prog 248 3 247:=⟨by kernel_rfl⟩
structure DkAt (w:World) (d:Nat) (s m N:Nat) (f:Nat→Option Value):Prop where
 blk:Blk w d 250 [.pointer (some ⟨d,0,none⟩),.slice (some ⟨s,0,none⟩) N N,.map (some m)]
 map:MapF w m f
 ne:d≠m
 le:N≤16384
theorem DkAt.keep {w w':World} {d s m N:Nat} {f:Nat→Option Value} (h:DkAt w d s m N f) (hd:w'.heap[d]? = w.heap[d]?) (hm:w'.heap[m]? = w.heap[m]?):DkAt w' d s m N f :=
 ⟨by have:=h.blk;unfold Blk at *;rw [hd];exact this,h.map.keep hm,h.ne,h.le⟩
theorem DkAt.grow {w w':World} {d s m N:Nat} {f:Nat→Option Value} (g:Grow w w') (h:DkAt w d s m N f):DkAt w' d s m N f:=h.keep (g.block d h.blk.lt) (g.block m h.map.lt)
theorem dmade_c (s N:Nat) (w:World) (hN:N≤16384) :
  Calls Tryz.prog 141 #[.slice (some ⟨s,0,none⟩) N N] w (Ret λ v w'=>∃ d m,v=.pointer (some ⟨d,0,none⟩)∧w.heap.size≤d∧w.heap.size≤m∧DkAt w' d s m N (λ _=>none)∧Grow w w'):=by
 refine V.calls (args:=[_]) Tryz.func141 rfl Tryz.ntmps141 rfl rfl ?_
 repeat (first|(refine TL.isMakeMap ?_;refine TL.makeMapF rfl ?_;intro m w1 hg1 hm1 hs1 hs2)|(refine aB ?_;refine TL.pure rfl rfl ?_)|(refine aD ?_;refine TL.pure rfl rfl ?_)|refine aF rfl rfl ?_|refine TL.nil ?_|refine aA ?_|refine aJ ?_|refine aC ?_|(refine aP ?_;(refine bQ rfl rfl yB (by exact rfl) (by exact rfl) (by exact rfl) ?_;intro w' hu hbk hsz))|(refine cD ?_;(refine TL.box rfl rfl rfl ?_;intro bk w' hg hbk hsz hsz'))|refine TL.build rfl rfl rfl ?_|refine bM rfl rfl ?_|refine bE ?_)
 refine cI rfl ⟨_,rfl,bk,m,rfl,by omega,by omega,⟨hbk,MapF.upd hu (by omega) (hm1.grow hg),by omega,hN⟩,yG⟩
theorem dnew_c (n:Nat) (w:World) (h1:1≤n) (hn:n≤16384) :
  Calls Tryz.prog 67 #[.int .i64 (n:Int)] w (Ret λ v w'=>∃ d s m,v=.tuple #[.pointer (some ⟨d,0,none⟩),.int .i64 0]∧w.heap.size≤d∧w.heap.size≤m∧DkAt w' d s m n (λ _=>none)∧Grow w w'):=by
 refine V.calls (args:=[_]) Tryz.func67 rfl Tryz.ntmps67 rfl rfl ?_
 repeat (first|refine aU rfl rfl rfl ?_|(refine aB ?_;refine TL.pure rfl rfl ?_)|(refine aD ?_;refine TL.pure rfl rfl ?_)|refine TL.nil ?_|refine aA ?_|refine aJ ?_|refine aC ?_|(refine aH ?_;refine aQ rfl yD rfl ?_)|refine aE rfl ?_|refine aW ?_|refine TL.pure rfl rfl ?_)
 haveI:Zero Tryz.prog 247 (.agg (cX (zs 256)).toArray):=⟨zero_sector⟩
 refine TL.makeAll rfl rfl (by omega) (by unfold maxLen;omega) rfl ?_
 intro b w1 hb hown hg1
 clear hown
 have:=hg1.size
 refine aI rfl (dmade_c b n _ hn) rfl ?_
 rintro _ w2 ⟨d,m,rfl,q1,q2,q3,hg2⟩
 repeat (first|(refine aD ?_;refine TL.pure rfl rfl ?_)|refine TL.nil ?_|refine aA ?_|refine bE ?_)
 exact jM rfl rfl ⟨_,rfl,d,b,m,rfl,by omega,by omega,q3,hg1.trans hg2⟩
theorem dvalid_c {w:World} {d s m N:Nat} {f:Nat→Option Value} (h:DkAt w d s m N f) :
  Calls Tryz.prog 184 #[.pointer (some ⟨d,0,none⟩)] w (Ret λ v w'=>v=.bool true∧w=w'):=by
 refine V.calls (args:=[_]) Tryz.func184 rfl Tryz.ntmps184 rfl rfl ?_
 have hb:=h.blk
 repeat (first|(refine dW 118 ?_;refine TL.neNilP rfl rfl rfl ?_)|(refine TL.isEqT 118 ?_;refine TL.eqSame rfl rfl rfl ?_)|refine aU rfl rfl rfl ?_|(refine aB ?_;refine TL.pure rfl rfl ?_)|(refine aD ?_;refine TL.pure rfl rfl ?_)|refine aK rfl yM rfl ?_|refine aF rfl rfl ?_|refine TL.nil ?_|refine aA ?_|refine aJ ?_|refine aC ?_|refine bM rfl rfl ?_|refine bE ?_|refine TL.pure rfl rfl ?_)
 exact cI rfl ⟨_,rfl,rfl,rfl⟩
theorem dsize_c {w:World} {d s m N:Nat} {f:Nat→Option Value} (h:DkAt w d s m N f) :
  Calls Tryz.prog 142 #[.pointer (some ⟨d,0,none⟩)] w (Ret λ v w'=>v=.int .i64 (N:Int)∧w=w'):=by
 refine V.calls (args:=[_]) Tryz.func142 rfl Tryz.ntmps142 rfl rfl ?_
 have hb:=h.blk
 repeat (first|(refine aL 184 ?_;refine aI rfl (dvalid_c h) rfl ?_;rintro _ _ ⟨rfl,rfl⟩)|(refine aB ?_;refine TL.pure rfl rfl ?_)|(refine aD ?_;refine TL.pure rfl rfl ?_)|refine aK rfl yM rfl ?_|refine aF rfl rfl ?_|refine TL.nil ?_|refine aA ?_|refine aJ ?_|refine aC ?_|refine bM rfl rfl ?_|refine aO rfl rfl ?_|refine aE rfl ?_|refine bE ?_|refine aW ?_|refine TL.pure rfl rfl ?_)
 exact cI rfl ⟨_,rfl,rfl,rfl⟩
theorem dcheck_c {w:World} {d s m N:Nat} {f:Nat→Option Value} (h:DkAt w d s m N f) (k:Nat) (hk:k<N) :
  Calls Tryz.prog 171 #[.pointer (some ⟨d,0,none⟩),.int .i64 (k:Int)] w (Ret λ v w'=>v=.int .i64 0∧w=w'):=by
 refine V.calls (args:=[_,_]) Tryz.func171 rfl Tryz.ntmps171 rfl rfl ?_
 have hb:=h.blk
 repeat (first|(refine aL 184 ?_;refine aI rfl (dvalid_c h) rfl ?_;rintro _ _ ⟨rfl,rfl⟩)|refine aU rfl rfl rfl ?_|(refine aB ?_;refine TL.pure rfl rfl ?_)|(refine aD ?_;refine TL.pure rfl rfl ?_)|refine aK rfl yM rfl ?_|refine aF rfl rfl ?_|refine TL.nil ?_|refine aA ?_|refine aJ ?_|refine aC ?_|(refine aH ?_;refine aQ rfl yD rfl ?_)|refine bM rfl rfl ?_|refine aO rfl rfl ?_|refine aE rfl ?_|refine bE ?_|refine aW ?_|refine TL.pure rfl rfl ?_)
 exact cI rfl ⟨_,rfl,rfl,rfl⟩
theorem dread_c {w:World} {d s m N:Nat} {f:Nat→Option Value} (h:DkAt w d s m N f) (k:Nat) (hk:k<N) (vs:Bs) (hf:f k=some (.agg (cX vs).toArray)) (hl:vs.length=256) :
  Calls Tryz.prog 129 #[.pointer (some ⟨d,0,none⟩),.int .i64 (k:Int)] w (Ret λ v w'=>∃ b,v=.tuple #[.slice (some ⟨b,0,none⟩) 256 256,.int .i64 0]∧w.heap.size≤b∧Sl (λ k=>k=b) w' 1 (some ⟨b,0,none⟩) 256 256 (cX vs)∧Grow w w'):=by
 have hN:=h.le
 refine V.calls (args:=[_,_]) Tryz.func129 rfl Tryz.ntmps129 rfl rfl ?_
 have hb:=h.blk
 have hlb:(cX vs).length=256:=by rw [dA,hl]
 repeat (first|(refine aL 171 ?_;refine aI rfl (dcheck_c h k hk) rfl ?_;rintro _ _ ⟨rfl,rfl⟩)|(refine gR ?_;refine TL.lookupYes rfl rfl h.map hf (by omega) rfl ?_)|(refine aB ?_;refine TL.pure rfl rfl ?_)|(refine aD ?_;refine TL.pure rfl rfl ?_)|refine aK rfl yM rfl ?_|refine aF rfl rfl ?_|refine TL.nil ?_|refine aA ?_|refine aJ ?_|refine aC ?_|(refine aH ?_;refine aQ rfl yD rfl ?_)|refine bM rfl rfl ?_|refine aE rfl ?_|refine aW ?_|refine TL.pure rfl rfl ?_)
 refine iG 256 zero_sector rfl ?_
 intro b w1 hg1 hb1 hs1 hs2
 refine iZ rfl rfl hb1 (dZ _) hl ?_
 intro w2 hu2 hb2 hs3
 repeat (first|(refine aB ?_;refine TL.pure rfl rfl ?_)|(refine aD ?_;refine TL.pure rfl rfl ?_)|refine TL.nil ?_|refine aA ?_|refine aJ ?_|refine aC ?_|(refine eX ?_;refine eP rfl (cA _) (cA _) (by omega) (by omega) (by omega) rfl rfl ?_)|refine aE rfl ?_|refine bE ?_|refine aW ?_|refine TL.pure rfl rfl ?_)
 refine jM rfl rfl ⟨_,rfl,b,rfl,by omega,?_,yG⟩
 have:=lD (o:=0) (m:=256) (c:=256) hb2 (by omega) (by omega) (by decide)
 rw [List.drop_zero,List.take_of_length_le (by omega)] at this
 exact this
theorem dwrite_c {w:World} {d s m N:Nat} {f:Nat→Option Value} (h:DkAt w d s m N f) (k:Nat) (hk:k<N) (F:Nat→Prop) (a:Option Addr) (c:Nat) (vs:Bs) (hs:Sl F w 1 a 256 c (cX vs)) :
  Calls Tryz.prog 124 #[.pointer (some ⟨d,0,none⟩),.int .i64 (k:Int),.slice a 256 c] w (Ret λ v w'=>DkAt w' d s m N (upF f k (.agg (cX vs).toArray))∧But m w w'):=by
 have hN:=h.le
 refine V.calls (args:=[_,_,_]) Tryz.func124 rfl Tryz.ntmps124 rfl rfl ?_
 have hb:=h.blk
 have hlb:(cX vs).length=256:=by have:=hs.len;omega
 repeat (first|(refine aL 171 ?_;refine aI rfl (dcheck_c h k hk) rfl ?_;rintro _ _ ⟨rfl,rfl⟩)|(refine aB ?_;refine TL.pure rfl rfl ?_)|(refine aD ?_;refine TL.pure rfl rfl ?_)|refine TL.nil ?_|refine aA ?_|refine aJ ?_|refine aC ?_|(refine aH ?_;refine aQ rfl yD rfl ?_)|refine aO rfl rfl ?_|refine aE rfl ?_|refine aW ?_)
 apply T.any 8 [is _,is _,is _,is _,is _,is _,is (.pointer a),is (.agg (cX vs).toArray)]
 ·kernel_rfl
 ·repeat' (first|exact bW|refine bU ?_ ?_)
  iterate 6
   ·(refine aR rfl rfl rfl ?_);( intro wq _ _ hgq;(repeat (refine aG rfl rfl ?_;intro vq hvq;try (obtain rfl:=hvq)));(refine aN ?_))
    repeat (first|(refine aB ?_;refine TL.pure rfl rfl ?_)|refine aK rfl yM rfl ?_|refine aF rfl rfl ?_|refine TL.nil ?_|refine bM rfl rfl ?_)
    exact aT rfl yG rfl
  ·(refine aR rfl rfl rfl ?_);( intro wq _ _ hgq;(repeat (refine aG rfl rfl ?_;intro vq hvq;try (obtain rfl:=hvq)));(refine aN ?_))
   refine TL.arrayAt rfl (Nat.le_refl _) rfl ?_
   repeat (refine TL.nil ?_)
   exact aT rfl yG rfl
  ·(refine aR rfl rfl rfl ?_);( intro wq _ _ hgq;(repeat (refine aG rfl rfl ?_;intro vq hvq;try (obtain rfl:=hvq)));(refine aN ?_))
   refine TL.loadAll rfl (hs.grow yG) rfl rfl ?_
   repeat (refine TL.nil ?_)
   exact aT rfl yG rfl
 ·intro w6 lo6 hi6 hg6 _ _
  ((repeat (refine aG rfl rfl ?_;intro vq hvq;try (obtain rfl:=hvq)));(refine aN ?_))
  refine TL.updateF rfl rfl rfl (h.map.grow hg6) (by omega) ?_
  intro w7 hu7 hm7
  repeat (first|(refine aD ?_;refine TL.pure rfl rfl ?_)|refine TL.nil ?_|refine aA ?_|refine aJ ?_|refine aC ?_|refine bE ?_)
  have hb7:Blk w7 d 250 _:=Blk.upd hu7 h.ne (hb.grow hg6)
  exact cI rfl ⟨_,rfl,⟨hb7,hm7,h.ne,h.le⟩,but_upd hu7 (but_grow' hg6)⟩
end Go.Proofs.YtfpadnmdafiddaaGreatDoor
namespace Go.Proofs.YtfpadnmdafiddaaGreatDoor
open Go Go.RowKit Go.V
theorem mulw_c (x y:Nat) (hx:x<18446744073709551616) (hy:y<18446744073709551616) (w:World) :
  Calls Tryz.prog 267 #[.int .u64 (x:Int),.int .u64 (y:Int)] w (Ret λ v w'=>v=.tuple #[.int .u64 ((x*y / 18446744073709551616:Nat):Int),.int .u64 ((x*y%18446744073709551616:Nat):Int)]∧Grow w w'):=by
 refine V.calls (args:=[_,_]) Tryz.func267 rfl Tryz.ntmps267 rfl rfl ?_
 have ha:=Lib.half_mul_le (a:=x / 4294967296) (b:=y / 4294967296) (by omega) (by omega)
 have hb:=Lib.half_mul_le (a:=x / 4294967296) (b:=y%4294967296) (by omega) (by omega)
 have hc:=Lib.half_mul_le (a:=x%4294967296) (b:=y / 4294967296) (by omega) (by omega)
 have hd:=Lib.half_mul_le (a:=x%4294967296) (b:=y%4294967296) (by omega) (by omega)
 have hl:=(Lib.mul64_hi x y hx hy).2.2.2
 repeat (first|(refine aB ?_;refine TL.pure rfl rfl ?_)|(refine aD ?_;refine TL.pure rfl rfl ?_)|(refine bL ?_;refine TL.addU rfl rfl rfl (by omega) rfl ?_)|(refine hE ?_;first|refine TL.mulU rfl rfl rfl (by omega) rfl ?_|refine TL.mulW rfl rfl rfl rfl ?_)|(refine TL.isAnd ?_;refine TL.andU rfl rfl rfl rfl (by omega) (by omega) rfl ?_)|refine TL.nil ?_|refine aA ?_|refine aJ ?_|refine aC ?_|refine TL.shrU rfl rfl rfl rfl rfl rfl ?_|refine bE ?_)
 refine jM rfl rfl ⟨_,rfl,?_,yG⟩
 rw [hl]
theorem mul8_c (L:Nat) (h:L≤100000) (w:World) :
  Calls Tryz.prog 267 #[.int .u64 (L:Int),.int .u64 8] w (Ret λ v w'=>v=.tuple #[.int .u64 0,.int .u64 ((8*L:Nat):Int)]∧Grow w w') :=
 Calls.mono (mulw_c L 8 (by omega) (by omega) w) λ e w' ⟨v,h1,h2,h3⟩=>⟨v,h1,by
  rw [h2]
  have e1:L*8 / 18446744073709551616=0:=by omega
  have e2:L*8%18446744073709551616=8*L:=by omega
  rw [e1,e2];rfl,h3⟩
def padZ (n:Nat):Nat:=(239-n%128)%128
def be8 (n:Nat):Bs:=(List.range 8).map λ i=>n / 2^(56-8*i)%256
def padS (l:Bs):Bs:=l++[128]++zs (padZ l.length)++be8 0++be8 (8*l.length)
theorem length_be8 (n:Nat):(be8 n).length=8:=by simp [be8]
theorem length_padS (l:Bs):(padS l).length=l.length+17+padZ l.length:=by simp [padS,length_be8,dZ];omega
theorem flat_take {bss:List Bs} {i:Nat} {p:Bs} (h:bss[i]? = some p):(bss.take (i+1)).flatten=(bss.take i).flatten++p:=by
 rw [List.take_add_one,h];simp
theorem flat_le (bss:List Bs) (i:Nat):(bss.take i).flatten.length≤bss.flatten.length:=by
 have:bss.flatten=(bss.take i).flatten++(bss.drop i).flatten:=by rw [← List.flatten_append,List.take_append_drop]
 rw [this,List.length_append];omega
theorem padded_c (F:Nat→Prop) (a:Option Addr) (n c:Nat) (bss:List Bs) (w:World) (h:KysAt F w a n c bss) (hn:bss.flatten.length≤100000) :
  Calls Tryz.prog 250 #[.slice a n c] w (Ret λ v w'=>w'.ownsRow w.heap.size 5 1 v (padS bss.flatten).length (cX (padS bss.flatten))∧Grow w w'):=by
 have hlen:=h.len
 obtain ⟨cs,hs,hcell⟩:=h.at'
 have hnle:=hs.le
 refine V.calls (args:=[_]) Tryz.func250 rfl Tryz.ntmps250 rfl rfl ?_
 repeat (first|(refine aB ?_;refine TL.pure rfl rfl ?_)|(refine aD ?_;refine TL.pure rfl rfl ?_)|refine TL.nil ?_|refine aA ?_|refine aJ ?_|refine aC ?_|refine T.block ?_|refine aO rfl rfl ?_)
 refine cU (S:=Nat) (λ i=>[(16,.int .i64 (i:Int)),(15,.int .i64 (n:Int)),(14,.slice a n c),(3,.int .i64 (((bss.take i).flatten.length:Nat):Int)),(0,.slice a n c)]) (λ i w1=>Grow w w1∧i≤n) (λ i=>n-i) 0 ⟨rfl,rfl,rfl,rfl,rfl,trivial⟩ ⟨Grow.refl _,by omega⟩ ?_
 rintro i w1 ⟨hg1,hi⟩
 have hs1:=hs.grow hg1
 have hle:=flat_le bss i
 by_cases hlt:i<n
 ·obtain ⟨p,hp⟩:∃ p,bss[i]? = some p:=⟨_,List.getElem?_eq_getElem (by omega)⟩
  obtain ⟨ka,kc,g1,s1⟩:=hcell i p hp
  have hcx:w1.cell? (at' a i)=some (.slice ka p.length kc):=hs1.row.cell g1
  have hle2:=flat_le bss (i+1)
  rw [flat_take hp,List.length_append] at hle2
  repeat (first|(refine bC ?_;refine aV rfl rfl rfl hlt (Nat.mul_one _) ⟨F,_,hs1⟩ rfl ?_)|(refine aB ?_;refine TL.pure rfl rfl ?_)|(refine aD ?_;refine TL.pure rfl rfl ?_)|refine aK rfl yM rfl ?_|(refine bL ?_;refine bT rfl rfl (by omega) rfl ?_)|refine TL.nil ?_|refine aA ?_|refine aJ ?_|refine aC ?_|refine T.block ?_|refine aS ?_|(refine aH ?_;refine aZ rfl yD rfl ?_)|refine aO rfl rfl ?_|refine aM rfl ?_|refine aW ?_)
  exact bG (i+1) ⟨rfl,rfl,rfl,by rw [flat_take hp,List.length_append];rfl,rfl,trivial⟩ ⟨hg1,by omega⟩ (by omega)
 obtain rfl:i=n:=by omega
 have htk:bss.take i=bss:=List.take_of_length_le (by omega)
 rw [htk]
 rw [htk] at hle
 generalize hL:bss.flatten.length=L at *
 repeat (first|(refine aB ?_;refine TL.pure rfl rfl ?_)|(refine bL ?_;refine bT rfl rfl (by omega) rfl ?_)|(refine hE ?_;refine hY rfl rfl (by omega) rfl ?_)|refine TL.nil ?_|refine aA ?_|refine aJ ?_|refine aC ?_|(refine kB ?_;refine mF rfl rfl (by omega) (by omega) rfl ?_)|(refine aH ?_;refine aQ rfl yD rfl ?_)|refine aE rfl ?_|refine cV ?_|refine bN ?_|refine bP ?_|refine bO ?_)
 refine TL.make0 (bytes:=1) (c:=(L+16) / 128*128+128) rfl rfl (by omega) (by unfold maxLen;omega) rfl ?_
 rintro b w2 hb hown hg2
 have h2:=hg2.size
 repeat (first|(refine aB ?_;refine TL.pure rfl rfl ?_)|(refine aD ?_;refine TL.pure rfl rfl ?_)|refine TL.nil ?_|refine aA ?_|refine aJ ?_|refine aC ?_|refine T.block ?_|refine aO rfl rfl ?_)
 have hown':=fI hown (show w.heap.size≤w1.heap.size from hg1.size)
 have hg3:=hg1.trans hg2
 refine cU (S:=Value×Nat) (λ s=>[(33,.int .i64 (s.2:Int)),(32,.int .i64 (i:Int)),(31,.slice a i c),(6,s.1),(3,.int .i64 (L:Int))]) (λ s w3=>s.2≤i∧w3.ownsRow w.heap.size 5 1 s.1 (bss.take s.2).flatten.length (cX (bss.take s.2).flatten)∧Grow w w3) (λ s=>i-s.2) (_,0) ⟨rfl,rfl,rfl,rfl,rfl,trivial⟩ ⟨by omega,hown',hg3⟩ ?_
 clear hown hown' hg2 hg3 hg1 hs1 h2 hb
 rintro ⟨v,j⟩ w3 ⟨hj,hown,hg3⟩
 simp only at hj hown
 have hsz:=hg3.size
 have hs3:=hs.grow hg3
 by_cases hlt:j<i
 ·obtain ⟨p,hp⟩:∃ p,bss[j]? = some p:=⟨_,List.getElem?_eq_getElem (by omega)⟩
  obtain ⟨ka,kc,g1,s1⟩:=hcell j p hp
  have hcx:w3.cell? (at' a j)=some (.slice ka p.length kc):=hs3.row.cell g1
  have hle2:=flat_le bss (j+1)
  rw [flat_take hp,List.length_append,hL] at hle2
  repeat (first|(refine bC ?_;refine aV rfl rfl rfl hlt (Nat.mul_one _) ⟨F,_,hs3⟩ rfl ?_)|(refine aB ?_;refine TL.pure rfl rfl ?_)|(refine aD ?_;refine TL.pure rfl rfl ?_)|refine aK rfl yM rfl ?_|refine TL.nil ?_|refine aA ?_|refine aJ ?_|refine aC ?_|refine T.block ?_|(refine aH ?_;refine aZ rfl yD rfl ?_)|refine aM rfl ?_|refine aW ?_)
  refine TL.append rfl rfl hown (s1.grow hg3) (eD p) (by unfold maxLen;omega) (by omega) (by omega) rfl ?_
  intro v' w4 hown4 hgb _
  repeat (first|(refine aB ?_;refine TL.pure rfl rfl ?_)|(refine aD ?_;refine TL.pure rfl rfl ?_)|(refine bL ?_;refine bT rfl rfl (by omega) rfl ?_)|refine TL.nil ?_|refine aA ?_|refine aC ?_|refine aS ?_)
  refine bG (v',j+1) ⟨rfl,rfl,rfl,rfl,rfl,trivial⟩ ⟨by simp only;omega,?_,Grow.mk (cH hgb (by omega) (λ k hk=>(cJ hown hk).1) hg3.1)⟩ (by simp only;omega)
  simp only
  rw [flat_take hp,gW,List.length_append]
  exact hown4
 obtain rfl:j=i:=by omega
 rw [htk,hL] at hown
 repeat (first|(refine aB ?_;refine TL.pure rfl rfl ?_)|refine TL.nil ?_|refine aA ?_|refine aJ ?_|refine aC ?_|(refine aH ?_;refine aQ rfl yD rfl ?_)|refine aE rfl ?_|refine cV ?_|refine bN ?_|refine bP ?_|refine bO ?_)
 refine TL.buildSlice rfl rfl rfl rfl rfl ?_
 intro b' wa hga hba hsa hsb hsc
 have hsl:Sl (λ _=>True) wa 1 (some ⟨b',0,none⟩) 1 1 (cX [128]):=(bR (sz:=1) (m:=1) hba hsc (by decide)).mono (λ _ _=>trivial)
 have hga':=hga.size
 refine TL.append rfl rfl (cL hown hga) hsl (eD [128]) (by unfold maxLen;omega) (by omega) (by omega) rfl ?_
 intro v' wb hownb hgb _
 have hgn:Grow w wb:=Grow.mk (cH hgb (by omega) (λ k hk=>(cJ (cL hown hga) hk).1) (hg3.trans hga).1)
 repeat (first|(refine aD ?_;refine TL.pure rfl rfl ?_)|refine TL.nil ?_|refine aA ?_|refine aJ ?_|refine T.block ?_)
 clear hown hg3 hsz hs3 hgb hga hga' hsl hba hsa hsb hsc
 refine cU (S:=Value×Nat) (λ s=>[(6,s.1),(3,.int .i64 (L:Int))]) (λ s w3=>s.2≤padZ L∧w3.ownsRow w.heap.size 5 1 s.1 (L+1+s.2) (cX (bss.flatten++[128]++zs s.2))∧Grow w w3) (λ s=>padZ L-s.2) (v',0) ⟨rfl,rfl,trivial⟩ ⟨by simp only;omega,by simp only [zs,List.replicate_zero,List.append_nil];rw [gW];exact hownb,hgn⟩ ?_
 clear hownb hgn
 rintro ⟨v,z⟩ w3 ⟨hz,hown,hg3⟩
 simp only at hz hown
 have hsz:=hg3.size
 have hpz:padZ L=(239-L%128)%128:=rfl
 have hpz2:padZ L<128:=by unfold padZ;omega
 obtain ⟨va,vc,rfl,hsv⟩:=bX hown
 by_cases hlt:z<padZ L
 ·have hne:(L+1+z)%128≠112:=by omega
  repeat (first|(refine aB ?_;refine TL.pure rfl rfl ?_)|refine TL.nil ?_|refine aA ?_|refine aJ ?_|refine aC ?_|refine T.block ?_|(refine TL.isRem ?_;refine TL.remU rfl rfl (by omega) rfl ?_)|(refine aH ?_;refine aZ rfl yD rfl ?_)|refine aO rfl rfl ?_|refine aM rfl ?_|refine aW ?_)
  refine TL.buildSlice rfl rfl rfl rfl rfl ?_
  intro b' wa hga hba hsa hsb hsc
  have hsl:Sl (λ _=>True) wa 1 (some ⟨b',0,none⟩) 1 1 (cX [0]):=(bR (sz:=1) (m:=1) hba hsc (by decide)).mono (λ _ _=>trivial)
  have hga':=hga.size
  refine TL.append rfl rfl (cL hown hga) hsl (eD [0]) (by unfold maxLen;omega) (by omega) (by omega) rfl ?_
  intro v' wb hownb hgb _
  have hgn:Grow w wb:=Grow.mk (cH hgb (by omega) (λ k hk=>(cJ (cL hown hga) hk).1) (hg3.trans hga).1)
  repeat (first|(refine aD ?_;refine TL.pure rfl rfl ?_)|refine TL.nil ?_|refine aS ?_)
  refine bG (v',z+1) ⟨rfl,rfl,trivial⟩ ⟨by simp only;omega,?_,hgn⟩ (by simp only;omega)
  simp only
  rw [show zs (z+1)=zs z++[0] by simp [zs,List.replicate_succ'],← List.append_assoc,gW]
  exact hownb
 obtain rfl:z=padZ L:=by omega
 have hne:(L+1+padZ L)%128=112:=by omega
 obtain ⟨pre,hpre⟩:∃ pre,pre=bss.flatten++[128]++zs (padZ L):=⟨_,rfl⟩
 rw [← hpre] at hown
 obtain ⟨N,hN⟩:∃ N,N=L+1+padZ L:=⟨_,rfl⟩
 rw [← hN] at hown hsv hne
 rw [← hN]
 have hN1:N≤200000:=by omega
 repeat (first|(refine cR ?_;refine mY (a:=L) rfl (M:=18446744073709551616) rfl rfl ?_;rw [show L%18446744073709551616=L by omega])|(refine aB ?_;refine TL.pure rfl rfl ?_)|(refine aD ?_;refine TL.pure rfl rfl ?_)|refine TL.nil ?_|refine aA ?_|refine aJ ?_|refine aC ?_|refine T.block ?_|(refine TL.isRem ?_;refine TL.remU rfl rfl (by omega) rfl ?_)|(refine aH ?_;refine aQ rfl yD rfl ?_)|refine mI rfl rfl rfl ?_|refine aO rfl rfl ?_|refine aE rfl ?_|refine cV ?_|refine bN ?_|refine bP ?_|refine bO ?_|refine TL.pure rfl rfl ?_|(refine aL 267 ?_;refine aI rfl (mul8_c L hn _) rfl ?_;rintro _ _ ⟨rfl,hgc⟩))
 have hsz4:=hg3.size
 refine cU (S:=Value×Nat) (λ s=>[(60,.int .i64 (s.2:Int)),(59,.agg #[.int .u64 0,.int .u64 ((8*L:Nat):Int)]),(6,s.1)]) (λ s w4=>s.2≤2∧w4.ownsRow w.heap.size 5 1 s.1 (N+8*s.2) (cX (pre++(be8 0++be8 (8*L)).take (8*s.2)))∧Grow w w4) (λ s=>2-s.2) (.slice va N vc,0) ⟨rfl,rfl,rfl,trivial⟩ ⟨by simp only;omega,by simpa using cL hown yG,yG⟩ ?_
 clear hown hsv hg3 hsz4 hsz
 rintro ⟨v,k⟩ w4 ⟨hk,hown,hg3⟩
 simp only at hk hown
 by_cases hlt:k<2
 ·obtain ⟨x,hx,hxv,htk⟩:∃ x:Nat,x<18446744073709551616∧[Value.int .u64 0,.int .u64 ((8*L:Nat):Int)][k]? = some (.int .u64 (x:Int))∧(be8 0++be8 (8*L)).take (8*(k+1))=(be8 0++be8 (8*L)).take (8*k)++be8 x:=by
   obtain rfl|rfl:k=0∨k=1:=by omega
   ·exact ⟨0,by omega,rfl,rfl⟩
   ·exact ⟨8*L,by omega,rfl,rfl⟩
  repeat (first|(refine TL.isIndexV ?_;refine TL.indexV rfl rfl (by omega) rfl hxv rfl ?_)|(refine aD ?_;refine TL.pure rfl rfl ?_)|refine TL.nil ?_|refine aA ?_|refine aJ ?_|refine aC ?_|refine T.block ?_|(refine aH ?_;refine aZ rfl yD rfl ?_)|refine aM rfl ?_|refine aW ?_)
  refine cU (S:=Value×Nat) (λ s=>[(13,.int .i64 (56-8*(s.2:Int))),(12,.int .u64 (x:Int)),(60,.int .i64 (k:Int)),(59,.agg #[.int .u64 0,.int .u64 ((8*L:Nat):Int)]),(6,s.1)]) (λ s w5=>s.2≤8∧w5.ownsRow w.heap.size 5 1 s.1 (N+8*k+s.2) (cX (pre++(be8 0++be8 (8*L)).take (8*k)++(be8 x).take s.2))∧Grow w w5) (λ s=>8-s.2) (v,0) ⟨rfl,rfl,rfl,rfl,rfl,trivial⟩ ⟨by simp only;omega,by simpa using hown,hg3⟩ ?_
  clear hown hg3
  rintro ⟨v,i⟩ w5 ⟨hi,hown,hg3⟩
  simp only at hi hown
  have hsz:=hg3.size
  by_cases hlt2:i<8
  ·have hsh:(56-8*(i:Int))=((56-8*i:Nat):Int):=by omega
   rw [hsh]
   repeat (first|(refine fZ ?_;refine jL rfl rfl (by show 56-8*i≤64;omega) rfl ?_)|(refine cR ?_;refine mY rfl (M:=256) rfl rfl ?_)|(refine aB ?_;refine TL.pure rfl rfl ?_)|refine TL.nil ?_|refine aA ?_|refine aJ ?_|refine aC ?_|refine T.block ?_|(refine aH ?_;refine aZ rfl yD rfl ?_)|refine aM rfl ?_|refine aW ?_)
   refine TL.buildSlice rfl rfl rfl rfl rfl ?_
   intro b' wa hga hba hsa hsb hsc
   have hsl:Sl (λ _=>True) wa 1 (some ⟨b',0,none⟩) 1 1 (cX [x / 2^(56-8*i)%256]):=(bR (sz:=1) (m:=1) hba hsc (by decide)).mono (λ _ _=>trivial)
   have hga':=hga.size
   refine TL.append rfl rfl (cL hown hga) hsl (eD [x / 2^(56-8*i)%256]) (by unfold maxLen;omega) (by omega) (by omega) rfl ?_
   intro v' wb hownb hgb _
   have hgn:Grow w wb:=Grow.mk (cH hgb (by omega) (λ k hk=>(cJ (cL hown hga) hk).1) (hg3.trans hga).1)
   repeat (first|(refine aB ?_;refine TL.pure rfl rfl ?_)|(refine aD ?_;refine TL.pure rfl rfl ?_)|(refine cN ?_;refine iT rfl rfl (by omega) (by omega) rfl ?_)|refine TL.nil ?_|refine aA ?_|refine aC ?_|refine aS ?_)
   refine bG (v',i+1) ⟨?_,rfl,rfl,rfl,rfl,trivial⟩ ⟨by simp only;omega,?_,hgn⟩ (by simp only;omega)
   ·show some (Value.int .i64 _)=some (Value.int .i64 _)
    congr 2
    simp only
    omega
   ·simp only
    have hx8:(be8 x).take (i+1)=(be8 x).take i++[x / 2^(56-8*i)%256]:=by
     rw [List.take_add_one]
     have:(be8 x)[i]? = some (x / 2^(56-8*i)%256):=by simp [be8,hlt2]
     rw [this];rfl
    rw [hx8,← List.append_assoc,gW]
    exact hownb
  obtain rfl:i=8:=by omega
  repeat (first|(refine aB ?_;refine TL.pure rfl rfl ?_)|(refine bL ?_;refine bT rfl rfl (by omega) rfl ?_)|refine TL.nil ?_|refine aA ?_|refine aJ ?_|refine aC ?_|refine aS ?_|(refine aH ?_;refine aQ rfl yD rfl ?_)|refine aE rfl ?_|refine cV ?_|refine bN ?_|refine bP ?_|refine bO ?_)
  refine bG (v,k+1) ⟨rfl,rfl,rfl,trivial⟩ ⟨by simp only;omega,?_,hg3⟩ (by simp only;omega)
  simp only
  rw [htk,← List.append_assoc,show N+8*(k+1)=N+8*k+8 by omega]
  have:(be8 x).take 8=be8 x:=List.take_of_length_le (by rw [length_be8];omega)
  rw [this] at hown
  exact hown
 obtain rfl:k=2:=by omega
 repeat (first|(refine aB ?_;refine TL.pure rfl rfl ?_)|(refine aD ?_;refine TL.pure rfl rfl ?_)|refine TL.nil ?_|refine aA ?_|refine aJ ?_|refine aC ?_|(refine aH ?_;refine aQ rfl yD rfl ?_)|refine aE rfl ?_|refine bE ?_|refine cV ?_|refine bN ?_|refine bP ?_|refine bO ?_)
 have hfin:pre++(be8 0++be8 (8*L)).take (8*2)=padS bss.flatten:=by
  rw [List.take_of_length_le (by rw [List.length_append,length_be8,length_be8];omega),hpre]
  unfold padS
  rw [hL]
  simp only [List.append_assoc]
 rw [hfin] at hown
 have hll:(padS bss.flatten).length=N+8*2:=by rw [length_padS,hL];omega
 exact cI rfl ⟨_,rfl,by rw [hll];exact hown,hg3⟩
end Go.Proofs.YtfpadnmdafiddaaGreatDoor
