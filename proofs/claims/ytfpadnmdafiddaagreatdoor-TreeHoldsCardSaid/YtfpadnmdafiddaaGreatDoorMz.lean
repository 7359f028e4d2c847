import Derived.Test.YtfpadnmdafiddaaGreatDoorMx
import Derived.Test.YtfpadnmdafiddaaGreatDoorMy
import Derived.Test.YtfpadnmdafiddaaGreatDoorMq
import Derived.Lib.AppendZeros
set_option linter.all false
set_option maxHeartbeats 16000000
set_option maxRecDepth 100000
namespace Go.V
open Go Go.RowKit
section
variable [Rn]
variable {P:Program} {n:Nat} {e:dQ} {w:World} {Q:dS} {ops:Array Oper} {rest:List Oper} {d:Nat} {ty:TypeId} {pos:String} {aft:Array Edge}
theorem TL.eqNilP {t t2:TypeId} {x y:Operand} {a:Addr} [ht:PtrTy P t] (hx:val e x=some (.pointer (some a))) (hy:val e y=some (.pointer none)) (hd:Nat.blt d n=true)
  (k:TL P n ops rest ((d,.bool false)::e) w Q):TL P n ops (⟨some d,.binOp .eql t x y t2,ty,pos,aft,none⟩::rest) e w Q :=
 TL.run (λ r hr=>by
  have hg:eqGuard .eql t x y (.pointer (some a)) (.pointer none)=Pure.pure ():=rfl
  simp only [execOp,hr.eval hx,hr.eval hy,hg]
  simp only [binOp]
  simp [Op.equal,Op.maxDepth,run_equalIn_nil 9999 ht]) hd k
end
end Go.V
namespace Go.Proofs.YtfpadnmdafiddaaGreatDoor
open Go Go.RowKit Go.V
theorem kO {w:World} {L:PL} {g:Pg} (h:PgAt w L g) (r:Int) (hr : -1≤r) (hr2:r≤9223372036854775807) :
  Calls Tryz.prog 93 #[.pointer (some ⟨L.p,0,none⟩),.int .i64 r] w (Ret λ v w'=>v=.int .i64 0∧w=w'):=by
 refine V.calls (args:=[_,_]) Tryz.func93 rfl Tryz.ntmps93 rfl rfl ?_
 have ht:decide (r < -1)=false:=decide_eq_false (by omega)
 repeat (first|(refine TL.isEqT 25 ?_;refine TL.eqNilP rfl rfl rfl ?_)|(refine aL 50 ?_;refine aI rfl (read_neg h) rfl ?_;rintro _ _ ⟨rfl,rfl⟩)|(refine aB ?_;refine TL.pure rfl rfl ?_)|(refine aD ?_;refine TL.pure rfl rfl ?_)|refine TL.nil ?_|refine aA ?_|refine aJ ?_|refine aC ?_|(refine aH ?_;refine TL.pure rfl rfl ?_)|refine aE rfl ?_|refine gO rfl yD ?_|refine bE ?_|refine aW ?_|refine TL.pure rfl rfl ?_)
 exact cI rfl ⟨_,rfl,rfl,rfl⟩
theorem iJ (x:NV) (w:World) (h1:x.n1≤1000000) (h2:x.n2≤1000000) :
  Calls Tryz.prog 83 #[x.val] w (Ret λ v w'=>v=.int .i64 ((x.n1+x.n2:Nat):Int)∧Grow w w'):=by
 refine V.calls (args:=[_]) Tryz.func83 rfl Tryz.ntmps83 rfl rfl ?_
 repeat (first|(refine aD ?_;refine TL.pure rfl rfl ?_)|refine aK rfl yM rfl ?_|refine aF rfl rfl ?_|(refine bL ?_;refine bT rfl rfl (by omega) rfl ?_)|refine TL.nil ?_|refine aA ?_|refine aJ ?_|refine aC ?_|(refine cD ?_;(refine dP rfl rfl ?_;intro bk w' hg hbk hsz hsz'))|refine aO rfl rfl ?_|refine bE ?_)
 exact cI rfl ⟨_,rfl,rfl,yG⟩
theorem node_c {w:World} {L:PL} {g:Pg} (h:PgAt w L g) (n:Nat) (hn:n<4294967296) (hu:dE g n=true) :
  Calls Tryz.prog 127 #[.pointer (some ⟨L.p,0,none⟩),.int .i64 (n:Int)] w (Ret λ v w'=>(match gG (g.body n) with
   | some nd=>∃ x:NV,v=.tuple #[x.val,.int .i64 0]∧NdAt (λ k=>w.heap.size≤k) w' x nd
   | none=>v=.tuple #[.agg nil3.toArray,.int .i64 4])∧Grow w w'):=by
 refine V.calls (args:=[_,_]) Tryz.func127 rfl Tryz.ntmps127 rfl rfl ?_
 repeat (first|(refine aB ?_;refine TL.pure rfl rfl ?_)|(refine aD ?_;refine TL.pure rfl rfl ?_)|refine TL.nil ?_|refine aA ?_|refine aJ ?_|refine aC ?_|(refine bF ?_;(refine TL.alloc rfl rfl ?_;intro bk w' hg hbk hsz hsz')))
 have hg0:Grow w w':=by exact yG
 have hs0:=hg0.size
 refine aL 50 ?_
 refine aI rfl (pread_c (h.grow hg0) n hn hu) rfl ?_
 rintro _ w2 ⟨u,rfl,hown,hg2⟩
 obtain ⟨a,c,rfl,hsl⟩:=bX hown
 have hs2:=hg2.size
 repeat (first|(refine aB ?_;refine TL.pure rfl rfl ?_)|(refine aD ?_;refine TL.pure rfl rfl ?_)|refine TL.nil ?_|refine aA ?_|refine aJ ?_|refine aC ?_|(refine aH ?_;refine TL.pure rfl rfl ?_)|refine aE rfl ?_|refine aW ?_|refine TL.pure rfl rfl ?_)
 refine aL 174 ?_
 refine aI rfl (read_c _ a 500 c (g.body n) _ hsl (h.lt n) (by omega)) rfl ?_
 rintro v w3 ⟨hv,hg3⟩
 have hbl:=hbk.lt
 have hbk3:=(hbk.grow hg2).grow hg3
 have hgw:=(hg0.trans hg2).trans hg3
 cases hr:gG (g.body n) with
 | none =>
  rw [hr] at hv
  simp only at hv
  subst hv
  repeat (first|(refine aD ?_;refine TL.pure rfl rfl ?_)|refine TL.nil ?_|refine aA ?_|(refine aP ?_;(refine bA rfl rfl yB (by exact rfl) (by exact rfl) (by exact rfl) ?_;intro w' hu hbk hsz))|refine bE ?_|refine TL.pure rfl rfl ?_)
  exact jW rfl (bV (by assumption) rfl) rfl ⟨_,rfl,rfl,yG⟩
 | some nd =>
  rw [hr] at hv
  obtain ⟨x,rfl,hnd⟩:=hv
  repeat (first|(refine aD ?_;refine TL.pure rfl rfl ?_)|refine TL.nil ?_|refine aA ?_|(refine aP ?_;(refine bA rfl rfl yB (by exact rfl) (by exact rfl) (by exact rfl) ?_;intro w' hu hbk hsz))|refine bE ?_|refine TL.pure rfl rfl ?_)
  refine jW rfl (bV (by assumption) rfl) rfl ⟨_,rfl,⟨x,rfl,?_⟩,yG⟩
  have h4:=hnd.go (Carry.upd (by assumption) (λ k hk _=>by omega))
  exact h4.go (Carry.mono (λ k hk _=>by omega))
end Go.Proofs.YtfpadnmdafiddaaGreatDoor
namespace Go.Proofs.YtfpadnmdafiddaaGreatDoor
open Go Go.RowKit Go.V
theorem back_c (a:Option Addr) (n c:Nat) (w:World) :
  Calls Tryz.prog 79 #[.slice a n c] w (Ret λ v w'=>∃ b1,v=.func (.func 151) #[] #[.pointer (some ⟨b1,0,none⟩)] ∧
   w.heap.size≤b1∧Blk w' b1 136 [.slice a n c]∧Grow w w'):=by
 refine V.calls (args:=[_]) Tryz.func79 rfl Tryz.ntmps79 rfl rfl ?_
 repeat (first|(refine mM ?_;refine TL.makeFunc (xs:=[]) (cs:=[_]) rfl rfl rfl ?_)|(refine aD ?_;refine TL.pure rfl rfl ?_)|refine TL.nil ?_|refine aA ?_|refine aJ ?_|refine aC ?_|(refine cD ?_;(refine TL.box rfl rfl rfl ?_;intro bk w' hg hbk hsz hsz'))|refine bE ?_)
 exact cI rfl ⟨_,rfl,_,rfl,by omega,yB,yG⟩
theorem backs_c (G:Nat→Prop) (l b1 m:Nat) (a:Option Addr) (c:Nat) (cs:List Value) (J:Nat→World→Prop) (Fin:World→Prop) (hm:m≤1000000)
  (hpre:∀ k w,J k w→Blk w b1 136 [.slice a m c]∧Sl G w 4 a m c cs)
  (hround:∀ k w,k<m→J (k+1) w→Yld Tryz.prog l [.int .i64 (k:Int),.agg ((cs.drop (k*4)).take 4).toArray] w (λ v w'=>(v=.bool true∧J k w')∨(v=.bool false∧Fin w')))
  (w:World) (h0:J m w) :
  Calls Tryz.prog 151 #[.func (.yield l) #[] #[],.pointer (some ⟨b1,0,none⟩)] w (Ret λ _ w'=>J 0 w'∨Fin w'):=by
 refine V.calls (args:=[_,_]) Tryz.func151 rfl Tryz.ntmps151 rfl rfl ?_
 obtain ⟨hb1,hs⟩:=hpre m w h0
 repeat (first|(refine cN ?_;refine iT rfl rfl (by omega) (by omega) rfl ?_)|(refine aD ?_;refine TL.pure rfl rfl ?_)|refine aK rfl yM rfl ?_|refine TL.nil ?_|refine aA ?_|refine aJ ?_|refine aC ?_|refine T.block ?_|refine aO rfl rfl ?_)
 refine cU (S:=Nat) (λ k=>[(3,.int .i64 ((k:Int)-1)),(1,.pointer (some ⟨b1,0,none⟩)),(0,.func (.yield l) #[] #[])]) (λ k w1=>k≤m∧J k w1) (λ k=>k) m ⟨rfl,rfl,rfl,trivial⟩ ⟨Nat.le_refl _,h0⟩ ?_
 clear h0 hb1 hs
 rintro k w1 ⟨hk,hj⟩
 obtain ⟨hb1,hs⟩:=hpre k w1 hj
 cases k with
 | zero =>
  repeat (first|(refine aB ?_;refine TL.pure rfl rfl ?_)|refine TL.nil ?_|refine aA ?_|refine aJ ?_|refine aC ?_|(refine aH ?_;refine aQ rfl yD rfl ?_)|refine aE rfl ?_|refine cV ?_|refine bN ?_|refine bP ?_|refine bO ?_)
  exact lT (vs:=[]) rfl rfl ⟨_,rfl,.inl hj⟩
 | succ k =>
  rw [show (((k+1:Nat):Int)-1)=(k:Int) by omega]
  have hlen:=hs.len
  have hel:((cs.drop (k*4)).take 4).length=4:=by rw [List.length_take,List.length_drop];omega
  repeat (first|(refine bC ?_;refine aV (j:=k) rfl rfl rfl (by omega) rfl ⟨_,_,hs⟩ rfl ?_)|(refine aY ?_;refine eL rfl hs (λ j v hj=>by rw [List.getElem?_take] at hj;split at hj<;>first|(rw [List.getElem?_drop] at hj;exact hj)|cases hj) hel rfl ?_)|(refine aB ?_;refine TL.pure rfl rfl ?_)|refine aK rfl yM rfl ?_|refine TL.nil ?_|refine aA ?_|refine aJ ?_|refine aC ?_|refine T.block ?_|(refine aH ?_;refine aZ rfl yD rfl ?_)|refine aM rfl ?_|refine aW ?_)
  refine TL.yield rfl rfl (hround k _ (by omega) hj) rfl ?_
  rintro v w7 (⟨rfl,hj7⟩|⟨rfl,hf7⟩)
  ·obtain ⟨hb17,hs7⟩:=hpre k _ hj7
   repeat (first|(refine cN ?_;refine iT rfl rfl (by omega) (by omega) rfl ?_)|(refine aB ?_;refine TL.pure rfl rfl ?_)|(refine aD ?_;refine TL.pure rfl rfl ?_)|refine TL.nil ?_|refine aA ?_|refine aC ?_|refine aS ?_|refine aE rfl ?_|refine aW ?_|refine TL.pure rfl rfl ?_)
   exact bG k ⟨rfl,rfl,rfl,trivial⟩ ⟨by omega,hj7⟩ (by omega)
  ·repeat (first|refine TL.nil ?_|refine aA ?_|refine aM rfl ?_|refine bE ?_|refine bI ?_|refine cZ ?_|refine dY ?_|refine TL.pure rfl rfl ?_)
   exact jI (vs:=[]) rfl rfl ⟨_,rfl,.inr hf7⟩
end Go.Proofs.YtfpadnmdafiddaaGreatDoor
namespace Go.Proofs.YtfpadnmdafiddaaGreatDoor
open Go Go.RowKit Go.V
structure WkAt (w:World) (b p m:Nat) (f:Nat→Option Value):Prop where
 blk:Blk w b 226 [.pointer (some ⟨p,0,none⟩),.map (some m)]
 map:MapF w m f
 ne:b≠m
theorem walk_new (p:Nat) (w:World) :
  Calls Tryz.prog 87 #[.pointer (some ⟨p,0,none⟩)] w (Ret λ v w'=>∃ b m,v=.pointer (some ⟨b,0,none⟩)∧w.heap.size≤b∧w.heap.size≤m∧WkAt w' b p m (λ _=>none)∧Grow w w'):=by
 refine V.calls (args:=[_]) Tryz.func87 rfl Tryz.ntmps87 rfl rfl ?_
 repeat (first|(refine TL.isMakeMap ?_;refine TL.makeMapF rfl ?_;intro m w1 hg1 hm1 hs1 hs2)|(refine aB ?_;refine TL.pure rfl rfl ?_)|(refine aD ?_;refine TL.pure rfl rfl ?_)|refine TL.nil ?_|refine aA ?_|refine aJ ?_|refine aC ?_|(refine cD ?_;(refine TL.box rfl rfl rfl ?_;intro bk w' hg hbk hsz hsz'))|refine TL.build rfl rfl rfl ?_|refine bE ?_)
 exact cI rfl ⟨_,rfl,bk,m,rfl,by omega,by omega,⟨hbk,hm1.grow hg,by omega⟩,yG⟩
end Go.Proofs.YtfpadnmdafiddaaGreatDoor
namespace Go.Proofs.YtfpadnmdafiddaaGreatDoor
open Go Go.RowKit Go.V
theorem write_c {w:World} {L:PL} {g g':Pg} (h:PgAt w L g) (ht:TabAt w) (F:Nat→Prop) (x:NV) (nd:Nd) (hnd:NdAt F w x nd) (hok:cE nd=true) (hlt:∀ b∈fN nd,b<256) (n:Nat) (hw:newP g (fN nd)=some (n,g')) :
  Calls Tryz.prog 84 #[.pointer (some ⟨L.p,0,none⟩),x.val] w (Ret λ v w'=>v=.tuple #[.int .i64 (n:Int),.int .i64 0]∧PgAt w' L g'∧ButS L.S w w'):=by
 have hby:∀ w1,Grow w w1→Calls Tryz.prog 154 #[x.val] w1 (Ret λ v w'=>∃ u,v=.tuple #[u,.int .i64 0]∧w'.ownsRow w1.heap.size 5 1 u (fN nd).length (cX (fN nd))∧Grow w1 w'):=λ w1 gr=>by
  cases hl:cK nd with
  | true=>exact bytes_leaf F x nd w1 (hnd.go (Carry.grow gr)) hok hl
  | false=>exact bytes_branch F x nd w1 (hnd.go (Carry.grow gr)) hok hl
 have hlen:=length_bytesN hok
 refine V.calls (args:=[_,_]) Tryz.func84 rfl Tryz.ntmps84 rfl rfl ?_
 repeat (first|(refine aD ?_;refine TL.pure rfl rfl ?_)|(refine aY ?_;refine bK rfl yB (by exact rfl) rfl ?_)|refine TL.nil ?_|refine aA ?_|refine aJ ?_|refine aC ?_|(refine cD ?_;(refine TL.box rfl rfl rfl ?_;intro bk w' hg hbk hsz hsz')))
 have hg0:Grow w w':=by exact yG
 refine aL 154 ?_
 refine aI rfl (hby _ hg0) rfl ?_
 rintro _ w2 ⟨u,rfl,hown,hg2⟩
 obtain ⟨a,c,rfl,hsl⟩:=bX hown
 have hgw:=hg0.trans hg2
 repeat (first|(refine aB ?_;refine TL.pure rfl rfl ?_)|(refine aD ?_;refine TL.pure rfl rfl ?_)|refine TL.nil ?_|refine aA ?_|refine aJ ?_|refine aC ?_|(refine aH ?_;refine TL.pure rfl rfl ?_)|refine aE rfl ?_|refine aW ?_|refine TL.pure rfl rfl ?_)
 refine aL 45 ?_
 refine aI rfl (new_c (h.grow hgw) (ht.grow hgw) _ a (fN nd).length c (fN nd) hsl hlen hlt n g' hw) rfl ?_
 rintro _ w3 ⟨rfl,hp3,hb3⟩
 repeat (first|(refine aD ?_;refine TL.pure rfl rfl ?_)|refine TL.nil ?_|refine aA ?_|refine bE ?_|refine TL.pure rfl rfl ?_)
 exact jM rfl rfl ⟨_,rfl,rfl,hp3,(ButS.grow hgw).trans hb3⟩
end Go.Proofs.YtfpadnmdafiddaaGreatDoor
namespace Go.Proofs.YtfpadnmdafiddaaGreatDoor
open Go Go.RowKit Go.V
theorem tready_c {w:World} {L:PL} {g:Pg} (h:PgAt w L g) (r:Int) (hr : -1≤r) (hr2:r≤9223372036854775807) (F F':Nat→Prop) (a a':Option Addr) (n c n' c':Nat) (k v:Bs) (hk:Sl F w 1 a n c (cX k)) (hv:Sl F' w 1 a' n' c' (cX v)) (hko:dB k=true) (hvo:fR v=true) (hsp:32≤bZ g) :
  Calls Tryz.prog 77 #[.pointer (some ⟨L.p,0,none⟩),.int .i64 r,.slice a n c,.slice a' n' c'] w (Ret λ u w'=>u=.int .i64 0∧Grow w w'):=by
 refine V.calls (args:=[_,_,_,_]) Tryz.func77 rfl Tryz.ntmps77 rfl rfl ?_
 have hcn:=h.cnt
 repeat (first|(refine aL 93 ?_;refine aI rfl (kO h r hr hr2) rfl ?_;rintro _ _ ⟨rfl,rfl⟩)|(refine aL 94 ?_;refine aI rfl (lZ hk hko) rfl ?_;rintro _ _ ⟨rfl,rfl⟩)|(refine aL 148 ?_;refine aI rfl (value_t hv hvo) rfl ?_;rintro _ _ ⟨rfl,rfl⟩)|(refine aL 21 ?_;refine aI rfl (sparet_c h) rfl ?_;rintro _ _ ⟨rfl,hgc⟩)|refine aU rfl rfl rfl ?_|(refine aB ?_;refine TL.pure rfl rfl ?_)|(refine aD ?_;refine TL.pure rfl rfl ?_)|refine TL.nil ?_|refine aA ?_|refine aJ ?_|refine aC ?_|(refine aH ?_;refine aQ rfl yD rfl ?_)|refine aE rfl ?_|refine bE ?_|refine aW ?_|refine TL.pure rfl rfl ?_)
 exact cI rfl ⟨_,rfl,rfl,yG⟩
end Go.Proofs.YtfpadnmdafiddaaGreatDoor
namespace Go.V
open Go Go.RowKit
section
variable [Rn]
variable {P:Program} {n:Nat} {e:dQ} {w:World} {Q:dS} {ops:Array Oper} {rest:List Oper} {d:Nat} {ty:TypeId} {pos:String} {aft:Array Edge}
theorem TL.capR {t elem size bytes:Nat} {x:Operand} {a:Option Addr} {m c:Nat} [ht:SliceTy P t elem size bytes] (hx:val e x=some (.slice a m c)) (hd:Nat.blt d n=true)
  (k:TL P n ops rest ((d,.int .i64 (c:Int))::e) w Q):TL P n ops (⟨some d,.call ⟨.builtin .cap,#[x],#[t]⟩,ty,pos,aft,none⟩::rest) e w Q :=
 TL.run (λ a ha=>by simp [execOp,resolve,invoke,builtin,Builtin.cap_,underlying,ht.und,ha.eval hx,goInt]) hd k
theorem TL.sliceZ {t elem size bytes:Nat} {x y:Operand} {b m c:Nat} {kd:IntKind} {z:Int} [ht:SliceTy P t elem size bytes] (hx:val e x=some (.slice (some ⟨b,0,none⟩) m c)) (hy:val e y=some (.int kd z)) (hz:z=((0:Nat):Int)) (hc:0<c) (hd:Nat.blt d n=true)
  (k:TL P n ops rest ((d,.slice (some ⟨b,0,none⟩) 0 c)::e) w Q):TL P n ops (⟨some d,.slice t x none (some y) none,ty,pos,aft,none⟩::rest) e w Q:=by
 refine TL.run (λ r hr=>?_) hd k
 have hne:¬ c=0:=by omega
 have hb:=eS (P:=P) (k:=kd) (z:=z) (j:=0) (y:=c) (code:=.sliceAcap) hz (Nat.zero_le _) w
 simp [execOp,hr.eval hx,hr.eval hy,Instr.sliceAt,underlying,ht.und,Instr.slice,Instr.sliceBounds,hb,ht.size,hne,Addr.add_lit]
theorem TL.appendNil {t tn elem size bytes c:Nat} {x y:Operand} {kq kn:IntKind} [ht:SliceTy P t elem size bytes] [hn:IntTy P tn kn] (hx:val e x=some (.slice none 0 0)) (hy:val e y=some (.int kq (c:Int))) (h0:0<c) (hb:c*bytes≤140737488355328) (h63:c≤1000000) (hd:Nat.blt d n=true)
  (k:∀ b cap w',w.heap.size=b→Grow w w'→c≤cap→cap≤maxLen→w'.ownsRow w.heap.size elem size (.slice (some ⟨b,0,none⟩) 0 cap) 0 []→TL P n ops rest ((d,.slice (some ⟨b,0,none⟩) c cap)::e) w' Q) :
  TL P n ops (⟨some d,.call ⟨.builtin .append,#[x,y],#[t,tn]⟩,ty,pos,aft,none⟩::rest) e w Q:=by
 obtain ⟨i,z,hi,hsz,hby,hz,hzs,hne⟩:=ht.info
 have hrun:=Lib.run_append_nil_zeros (P:=P) w t tn ty elem i z kq kn ht.und hn.und hi hz c h0 (by omega) (by omega) (by rw [hby];omega)
 have hc1:c≤grownCap w c 0 elem:=grownCap_ge w _ _ _
 have hc2:grownCap w c 0 elem≤maxLen:=grownCap_le_maxLen w c 0 elem (by unfold maxLen;omega)
 refine TL.run (v:=.slice (some ⟨w.heap.size,0,none⟩) c (grownCap w c 0 elem)) (w':=w.drew.alloc (.cells (Builtin.zeroCells z.cells c++Builtin.zeroCells z.cells (grownCap w c 0 elem-c)) elem)) (λ r hr=>?_) hd (k _ _ _ rfl ?_ hc1 hc2 ?_)
 rotate_left
 ·exact Grow.mk ⟨rfl,rfl,rfl,by simp,λ k hk=>Below.heap_alloc w.drew _ k hk⟩
 ·refine ⟨by simp,.inr ⟨w.heap.size,_,_,rfl,Nat.le_refl _,heap_alloc_new w.drew _,Nat.zero_le _,hc2,?_,by simp⟩⟩
  simp only [Array.size_append,size_zeroCells,hzs,← Nat.add_mul]
  congr 1
  omega
 ·simp [execOp,resolve,invoke,builtin,hr.eval hx,hr.eval hy,hrun]
end
def SlsAt (F:Nat→Prop) (w:World) (sz:Nat):List Value→List (List Value)→Prop
 | [],[]=>True
 | v::vs,p::ps=>(∃ a m c,v=.slice a m c∧Sl F w sz a m c p)∧SlsAt F w sz vs ps
 | _,_=>False
theorem SlsAt.grow {F:Nat→Prop} {w w':World} {sz:Nat} (g:Grow w w'):∀ {vs:List Value} {ps:List (List Value)},SlsAt F w sz vs ps→SlsAt F w' sz vs ps
 | [],[],_=>trivial
 | [],_::_,h=>h.elim
 | _::_,[],h=>h.elim
 | _::_,_::_,⟨⟨a,m,c,h1,h2⟩,h3⟩=>⟨⟨a,m,c,h1,h2.grow g⟩,SlsAt.grow g h3⟩
theorem SlsAt.at' {F:Nat→Prop} {w:World} {sz:Nat}:∀ {vs:List Value} {ps:List (List Value)} {i:Nat} {p:List Value},SlsAt F w sz vs ps→ps[i]? = some p→∃ a m c,vs[i]? = some (.slice a m c)∧Sl F w sz a m c p
 | [],[],i,p,_,hp=>by simp at hp
 | [],_::_,_,_,h,_=>h.elim
 | _::_,[],_,_,h,_=>h.elim
 | v::vs,q::ps,0,p,⟨⟨a,m,c,h1,h2⟩,h3⟩,hp=>by
  simp only [List.getElem?_cons_zero,Option.some.injEq] at hp
  subst hp
  exact ⟨a,m,c,by rw [h1];rfl,h2⟩
 | v::vs,q::ps,i+1,p,⟨_,h3⟩,hp=>by
  obtain ⟨a,m,c,q1,q2⟩:=SlsAt.at' h3 (by simpa using hp)
  exact ⟨a,m,c,by simpa using q1,q2⟩
theorem SlsAt.len {F:Nat→Prop} {w:World} {sz:Nat}:∀ {vs:List Value} {ps:List (List Value)},SlsAt F w sz vs ps→vs.length=ps.length
 | [],[],_=>rfl
 | [],_::_,h=>h.elim
 | _::_,[],h=>h.elim
 | _::_,_::_,⟨_,h3⟩=>by simp [SlsAt.len h3]
def jH (sz:Nat) (ps:List (List Value)) (i:Nat):Nat:=((ps.take i).map λ p=>p.length / sz).sum
theorem mO {sz:Nat} {ps:List (List Value)} {i:Nat} {p:List Value} (h:ps[i]? = some p):jH sz ps (i+1)=jH sz ps i+p.length / sz:=by
 unfold jH
 rw [List.take_add_one,h]
 simp
theorem upN_le {sz:Nat} {ps:List (List Value)} (i:Nat):jH sz ps i≤jH sz ps ps.length:=by
 have e:(ps.map λ p=>p.length / sz)=((ps.take i).map λ p=>p.length / sz)++((ps.drop i).map λ p=>p.length / sz):=by rw [← List.map_append,List.take_append_drop]
 unfold jH
 rw [List.take_length,e,List.sum_append]
 omega
theorem flatV_take {ps:List (List Value)} {i:Nat} {p:List Value} (h:ps[i]? = some p):(ps.take (i+1)).flatten=(ps.take i).flatten++p:=by
 rw [List.take_add_one,h];simp
def slsF {B:Nat} (sz m:Nat) (ps:List (List Value)):SFact B:={ G:=λ v _ _ w=>∃ a c vs,v=.slice a m c∧Sl (λ _=>True) w 1 a m c vs∧SlsAt (λ _=>True) w sz vs ps,st:=λ v _ _ w w' g h=>by obtain ⟨a,c,vs,h1,h2,h3⟩:=h;exact ⟨a,c,vs,h1,h2.grow g,h3.grow g⟩ }
end Go.V
namespace Go.Proofs.YtfpadnmdafiddaaGreatDoor
open Go Go.RowKit Go.V
theorem grow_i (m:Nat) (hm:m≤1000000) (w:World) :
  Calls Tryz.prog 245 #[.slice none 0 0,.int .i64 (m:Int)] w (Ret λ v w'=>w'.ownsRow w.heap.size 3 1 v 0 []∧Grow w w'):=by
 refine V.calls (args:=[_,_]) Tryz.func245 rfl Tryz.ntmps245 rfl rfl ?_
 by_cases h0:m=0
 ·subst h0
  repeat (first|(refine aB ?_;refine TL.pure rfl rfl ?_)|(refine aD ?_;refine TL.pure rfl rfl ?_)|(refine cN ?_;refine dN rfl rfl (by omega) (by omega) rfl ?_)|refine TL.nil ?_|refine aA ?_|refine aJ ?_|refine aC ?_|(refine aH ?_;refine aQ rfl yD rfl ?_)|refine aO rfl rfl ?_|refine aE rfl ?_|refine bE ?_|refine aW ?_|refine TL.capR rfl rfl ?_)
  exact cI rfl ⟨_,rfl,World.ownsRow_nil _ _ _ _,Grow.refl _⟩
 ·repeat (first|(refine aB ?_;refine TL.pure rfl rfl ?_)|(refine aD ?_;refine TL.pure rfl rfl ?_)|(refine cN ?_;refine dN rfl rfl (by omega) (by omega) rfl ?_)|refine TL.nil ?_|refine aA ?_|refine aJ ?_|refine aC ?_|(refine aH ?_;first|refine aZ rfl yD rfl ?_|refine aQ rfl yD rfl ?_)|refine aO rfl rfl ?_|refine aM rfl ?_|refine aE rfl ?_|refine aW ?_|refine TL.capR rfl rfl ?_)
  refine TL.slice (F:=λ _=>True) (cs:=[]) (l:=0) (h:=0) (mm:=0) rfl ⟨by simp,Nat.le_refl _,Nat.zero_le _,λ _=>rfl,by simp [Row]⟩ (cA _) (dT rfl rfl) (cA 0) (λ h=>by cases h) (Nat.le_refl _) (Nat.le_refl _) (Nat.le_refl _) (Nat.le_refl _) rfl ?_
  intro a' _ hn'
  obtain rfl:=hn'.2 rfl
  repeat ((refine aB ?_;refine TL.pure rfl rfl ?_))
  refine TL.appendNil (c:=m) (bytes:=8) rfl rfl (by omega) (by omega) hm rfl ?_
  intro b cap w1 hb hg1 hc1 hc2 hown
  repeat (first|(refine aB ?_;refine TL.pure rfl rfl ?_)|refine aO rfl rfl ?_)
  refine TL.sliceZ rfl rfl rfl (by omega) rfl ?_
  repeat (first|(refine aB ?_;refine TL.pure rfl rfl ?_)|(refine aD ?_;refine TL.pure rfl rfl ?_)|refine TL.nil ?_|refine aA ?_|refine aJ ?_|refine aC ?_|refine bE ?_)
  exact cI rfl ⟨_,rfl,hown,hg1⟩
theorem concat_i (F:Nat→Prop) (a:Option Addr) (n c:Nat) (vs:List Value) (ps:List (List Value)) (w:World) (hs:Sl F w 1 a n c vs) (hp:SlsAt F w 1 vs ps) (h1:∀ p∈ps,∀ u∈p,u.oneCell'=true) (hn:jH 1 ps ps.length≤1000000) :
  Calls Tryz.prog 201 #[.slice a n c] w (Ret λ v w'=>w'.ownsRow w.heap.size 3 1 v (jH 1 ps ps.length) ps.flatten∧Grow w w'):=by
 have hlen:=hs.len
 have hpl:=hp.len
 have hnle:=hs.le
 refine V.calls (args:=[_]) Tryz.func201 rfl Tryz.ntmps201 rfl rfl ?_
 repeat (first|(refine aB ?_;refine TL.pure rfl rfl ?_)|(refine aD ?_;refine TL.pure rfl rfl ?_)|refine TL.nil ?_|refine aA ?_|refine aJ ?_|refine aC ?_|refine T.block ?_|refine aO rfl rfl ?_)
 refine cU (S:=Nat) (λ i=>[(11,.int .i64 (i:Int)),(10,.int .i64 (n:Int)),(9,.slice a n c),(3,.int .i64 ((jH 1 ps i:Nat):Int)),(0,.slice a n c)]) (λ i w1=>Grow w w1∧i≤n) (λ i=>n-i) 0 ⟨rfl,rfl,rfl,rfl,rfl,trivial⟩ ⟨Grow.refl _,by omega⟩ ?_
 rintro i w1 ⟨hg1,hi⟩
 have hs1:=hs.grow hg1
 have hle:=upN_le (sz:=1) (ps:=ps) i
 by_cases hlt:i<n
 ·obtain ⟨p,hpi⟩:∃ p,ps[i]? = some p:=⟨_,List.getElem?_eq_getElem (by omega)⟩
  obtain ⟨ka,km,kc,g1,s1⟩:=hp.at' hpi
  have hcx:w1.cell? (at' a i)=some (.slice ka km kc):=hs1.row.cell g1
  have hle2:=upN_le (sz:=1) (ps:=ps) (i+1)
  have hpn:=s1.len
  have hsu:=mO (sz:=1) hpi
  have hkm:p.length / 1=km:=by omega
  rw [hkm] at hsu
  rw [hsu] at hle2
  repeat (first|(refine bC ?_;refine aV rfl rfl rfl hlt (Nat.mul_one _) ⟨F,_,hs1⟩ rfl ?_)|(refine aB ?_;refine TL.pure rfl rfl ?_)|(refine aD ?_;refine TL.pure rfl rfl ?_)|refine aK rfl yM rfl ?_|(refine bL ?_;refine bT rfl rfl (by omega) rfl ?_)|refine TL.nil ?_|refine aA ?_|refine aJ ?_|refine aC ?_|refine T.block ?_|refine aS ?_|(refine aH ?_;first|refine aZ rfl yD rfl ?_|refine aQ rfl yD rfl ?_)|refine aO rfl rfl ?_|refine aM rfl ?_|refine aE rfl ?_|refine aW ?_)
  exact bG (i+1) ⟨rfl,rfl,rfl,by rw [hsu];rfl,rfl,trivial⟩ ⟨hg1,by omega⟩ (by omega)
 obtain rfl:i=n:=by omega
 have hin:i=ps.length:=by omega
 obtain ⟨L,hL0⟩:∃ L,L=jH 1 ps i:=⟨_,rfl⟩
 have hL:L=jH 1 ps ps.length:=by rw [hL0,hin]
 rw [← hL] at hn hle ⊢
 rw [← hL0]
 repeat (first|(refine aB ?_;refine TL.pure rfl rfl ?_)|refine TL.nil ?_|refine aA ?_|refine aJ ?_|refine aC ?_|(refine aH ?_;refine aQ rfl yD rfl ?_)|refine aE rfl ?_|refine cV ?_|refine bN ?_|refine bP ?_|refine bO ?_)
 refine aL 245 ?_
 refine aI rfl (grow_i L hn _) rfl ?_
 rintro v w2 ⟨hown,hg2⟩
 have hown':=fI hown (show w.heap.size≤w1.heap.size from hg1.size)
 have hg3:=hg1.trans hg2
 repeat (first|(refine aB ?_;refine TL.pure rfl rfl ?_)|(refine aD ?_;refine TL.pure rfl rfl ?_)|refine TL.nil ?_|refine aA ?_|refine aJ ?_|refine aC ?_|refine T.block ?_|refine aO rfl rfl ?_)
 refine cU (S:=Value×Nat) (λ s=>[(27,.int .i64 (s.2:Int)),(26,.int .i64 (i:Int)),(25,.slice a i c),(6,s.1)]) (λ s w3=>s.2≤i∧w3.ownsRow w.heap.size 3 1 s.1 (jH 1 ps s.2) (ps.take s.2).flatten∧Grow w w3) (λ s=>i-s.2) (v,0) ⟨rfl,rfl,rfl,rfl,trivial⟩ ⟨by omega,by simpa [jH] using hown',hg3⟩ ?_
 clear hown hown' hg2 hg3 hg1 hs1
 rintro ⟨v,j⟩ w3 ⟨hj,hown,hg3⟩
 simp only at hj hown
 have hsz:=hg3.size
 have hs3:=hs.grow hg3
 by_cases hlt:j<i
 ·obtain ⟨p,hpj⟩:∃ p,ps[j]? = some p:=⟨_,List.getElem?_eq_getElem (by omega)⟩
  obtain ⟨ka,km,kc,g1,s1⟩:=hp.at' hpj
  have hcx:w3.cell? (at' a j)=some (.slice ka km kc):=hs3.row.cell g1
  have hle2:=upN_le (sz:=1) (ps:=ps) (j+1)
  have hpn:=s1.len
  have hsu:=mO (sz:=1) hpj
  have hkm:p.length / 1=km:=by omega
  rw [hkm] at hsu
  rw [hsu,← hL] at hle2
  repeat (first|(refine bC ?_;refine aV rfl rfl rfl hlt (Nat.mul_one _) ⟨F,_,hs3⟩ rfl ?_)|(refine aB ?_;refine TL.pure rfl rfl ?_)|(refine aD ?_;refine TL.pure rfl rfl ?_)|refine aK rfl yM rfl ?_|refine TL.nil ?_|refine aA ?_|refine aJ ?_|refine aC ?_|refine T.block ?_|(refine aH ?_;refine aZ rfl yD rfl ?_)|refine aM rfl ?_|refine aW ?_)
  refine TL.append rfl rfl hown (s1.grow hg3) (h1 p (List.mem_of_getElem? hpj)) (by unfold maxLen;omega) (by omega) (by omega) rfl ?_
  intro v' w4 hown4 hgb _
  repeat (first|(refine aB ?_;refine TL.pure rfl rfl ?_)|(refine aD ?_;refine TL.pure rfl rfl ?_)|(refine bL ?_;refine bT rfl rfl (by omega) rfl ?_)|refine TL.nil ?_|refine aA ?_|refine aC ?_|refine aS ?_)
  refine bG (v',j+1) ⟨rfl,rfl,rfl,rfl,trivial⟩ ⟨by simp only;omega,?_,Grow.mk (cH hgb (by omega) (λ k hk=>(cJ hown hk).1) hg3.1)⟩ (by simp only;omega)
  simp only
  rw [flatV_take hpj,hsu]
  exact hown4
 obtain rfl:j=i:=by omega
 rw [hin,List.take_length,← hL] at hown
 repeat (first|(refine aB ?_;refine TL.pure rfl rfl ?_)|(refine aD ?_;refine TL.pure rfl rfl ?_)|refine TL.nil ?_|refine aA ?_|refine aJ ?_|refine aC ?_|(refine aH ?_;refine aQ rfl yD rfl ?_)|refine aE rfl ?_|refine bE ?_|refine cV ?_|refine bN ?_|refine bP ?_|refine bO ?_)
 exact cI rfl ⟨_,rfl,hown,hg3⟩
theorem join_i (F:Nat→Prop) (a:Option Addr) (n c:Nat) (vs:List Value) (ps:List (List Value)) (w:World) (hs:Sl F w 1 a n c vs) (hp:SlsAt F w 1 vs ps) (h1:∀ p∈ps,∀ u∈p,u.oneCell'=true) (hn:jH 1 ps ps.length≤1000000) :
  Calls Tryz.prog 160 #[.slice a n c] w (Ret λ v w'=>w'.ownsRow w.heap.size 3 1 v (jH 1 ps ps.length) ps.flatten∧Grow w w'):=by
 refine V.calls (args:=[_]) Tryz.func160 rfl Tryz.ntmps160 rfl rfl ?_
 repeat (first|(refine aB ?_;refine TL.pure rfl rfl ?_)|(refine aD ?_;refine TL.pure rfl rfl ?_)|refine TL.nil ?_|refine aA ?_|refine aJ ?_|refine aC ?_)
 refine aL 201 ?_
 refine aI rfl (concat_i F a n c vs ps _ hs hp h1 hn) rfl ?_
 rintro v w2 ⟨hown,hg2⟩
 repeat (first|(refine aD ?_;refine TL.pure rfl rfl ?_)|refine TL.nil ?_|refine aA ?_|refine bE ?_)
 exact cI rfl ⟨_,rfl,hown,hg2⟩
theorem insert_i (F G:Nat→Prop) (a b:Option Addr) (n c m d i:Nat) (cs xs:List Value) (w:World) (hs:Sl F w 1 a n c cs) (hx:Sl G w 1 b m d xs) (h1:∀ u∈cs,u.oneCell'=true) (h2:∀ u∈xs,u.oneCell'=true) (hi:i≤n) (hn:n+m≤1000000) :
  Calls Tryz.prog 96 #[.slice a n c,.int .i64 (i:Int),.slice b m d] w (Ret λ v w'=>w'.ownsRow w.heap.size 3 1 v (n+m) (cs.take (i*1)++xs++cs.drop (i*1))∧Grow w w'):=by
 have hcap:=hs.cap
 have hlen:=hs.len
 have hlx:=hx.len
 refine V.calls (args:=[_,_,_]) Tryz.func96 rfl Tryz.ntmps96 rfl rfl ?_
 repeat (first|(refine aD ?_;refine TL.pure rfl rfl ?_)|refine TL.nil ?_|refine aA ?_|refine aJ ?_|refine aC ?_)
 apply T.any 8 [is (.slice a n c),is (.int .i64 (i:Int)),slF F 1 i c (cs.take (i*1)),is (.slice b m d),is (.slice a n c),is (.int .i64 (i:Int)),slF F 1 (n-i) (c-i) (cs.drop (i*1)),slsF 1 3 [cs.take (i*1),xs,cs.drop (i*1)]]
 ·rfl
 ·repeat' (first|exact bW|refine bU ?_ ?_)
  iterate 2
   ·(refine aR rfl rfl rfl ?_);( intro wq _ _ hgq;(repeat (refine aG rfl rfl ?_;intro vq hvq;try (obtain rfl:=hvq)));(refine aN ?_))
    repeat (first|(refine aB ?_;refine TL.pure rfl rfl ?_)|refine TL.nil ?_)
    exact aT rfl yG rfl
  ·(refine aR rfl rfl rfl ?_);( intro wq _ _ hgq;(repeat (refine aG rfl rfl ?_;intro vq hvq;try (obtain rfl:=hvq)));(refine aN ?_))
   refine TL.slice (l:=0) (h:=i) (mm:=c) rfl (hs.grow hgq) (cA _) (dT rfl rfl) (cA c) (λ h=>by cases h) (Nat.zero_le _) hi (by omega) (Nat.le_refl _) rfl ?_
   intro a' hsl _
   repeat (refine TL.nil ?_)
   refine aT rfl yG ⟨a',rfl,?_⟩
   simpa using hsl
  iterate 3
   ·(refine aR rfl rfl rfl ?_);( intro wq _ _ hgq;(repeat (refine aG rfl rfl ?_;intro vq hvq;try (obtain rfl:=hvq)));(refine aN ?_))
    repeat (first|(refine aB ?_;refine TL.pure rfl rfl ?_)|refine TL.nil ?_)
    exact aT rfl yG rfl
  ·(refine aR rfl rfl rfl ?_);( intro wq _ _ hgq;(repeat (refine aG rfl rfl ?_;intro vq hvq;try (obtain rfl:=hvq)));(refine aN ?_))
   refine TL.slice (l:=i) (h:=n) (mm:=c) rfl (hs.grow hgq) (dT rfl rfl) (cA _) (cA c) (λ _=>rfl) hi (Nat.le_refl _) hcap (Nat.le_refl _) rfl ?_
   intro a' hsl _
   repeat (refine TL.nil ?_)
   refine aT rfl yG ⟨a',rfl,?_⟩
   rw [List.take_of_length_le (by rw [List.length_drop];omega)] at hsl
   exact hsl
  ·refine aR rfl rfl rfl ?_
   intro wq _ _ hgq
   refine aG rfl rfl ?_
   intro v1 q1
   refine aG rfl rfl ?_
   intro v2 q2
   obtain rfl:=q2
   refine aG rfl rfl ?_
   intro v3 q3
   refine aN ?_
   obtain ⟨a1,rfl,s1⟩:=q1
   obtain ⟨a3,rfl,s3⟩:=q3
   refine TL.buildSlice rfl rfl rfl rfl rfl ?_
   intro b' wa hga hba hsa hsb hsc
   repeat (refine TL.nil ?_)
   refine aT rfl yG ⟨_,_,_,rfl,(bR (sz:=1) (m:=3) hba hsc (by decide)).mono (λ _ _=>trivial),⟨_,_,_,rfl,(s1.grow hga).mono (λ _ _=>trivial)⟩,⟨_,_,_,rfl,((hx.grow hgq).grow hga).mono (λ _ _=>trivial)⟩,⟨_,_,_,rfl,(s3.grow hga).mono (λ _ _=>trivial)⟩,trivial⟩
 ·intro w6 lo6 hi6 hg6 _ _
  iterate 8 (refine aG rfl rfl ?_;intro vq hvq;try (obtain rfl:=hvq))
  refine aN ?_
  obtain ⟨a6,c6,vs6,rfl,hs6,hp6⟩:=hvq
  have hup:jH 1 [cs.take (i*1),xs,cs.drop (i*1)] 3=n+m:=by
   simp only [jH,List.take_succ_cons,List.take_zero,List.map_cons,List.map_nil,List.sum_cons,List.sum_nil,List.length_take,List.length_drop]
   omega
  refine aL 160 ?_
  refine aI rfl (join_i _ a6 3 c6 vs6 [cs.take (i*1),xs,cs.drop (i*1)] _ hs6 hp6 (by
   intro p hp u hu
   simp only [List.mem_cons,List.not_mem_nil,or_false] at hp
   rcases hp with rfl|rfl|rfl
   ·exact h1 u (List.mem_of_mem_take hu)
   ·exact h2 u hu
   ·exact h1 u (List.mem_of_mem_drop hu)) (by show jH _ _ 3≤_;omega)) rfl ?_
  rintro v w7 ⟨hown,hg7⟩
  rw [show ([cs.take (i*1),xs,cs.drop (i*1)]:List (List Value)).length=3 from rfl,hup] at hown
  rw [show ([cs.take (i*1),xs,cs.drop (i*1)]:List (List Value)).flatten=cs.take (i*1)++xs++cs.drop (i*1) by simp] at hown
  repeat (first|(refine aD ?_;refine TL.pure rfl rfl ?_)|refine TL.nil ?_|refine aA ?_|refine bE ?_)
  exact cI rfl ⟨_,rfl,fI hown hg6.size,hg6.trans hg7⟩
theorem cut_i (F:Nat→Prop) (a:Option Addr) (n c i j:Nat) (cs:List Value) (w:World) (hs:Sl F w 1 a n c cs) (h1:∀ u∈cs,u.oneCell'=true) (hij:i≤j) (hj:j≤n) (hn:n≤1000000) :
  Calls Tryz.prog 97 #[.slice a n c,.int .i64 (i:Int),.int .i64 (j:Int)] w (Ret λ v w'=>w'.ownsRow w.heap.size 3 1 v (n-(j-i)) (cs.take (i*1)++cs.drop (j*1))∧Grow w w'):=by
 have hcap:=hs.cap
 have hlen:=hs.len
 refine V.calls (args:=[_,_,_]) Tryz.func97 rfl Tryz.ntmps97 rfl rfl ?_
 repeat (first|(refine aD ?_;refine TL.pure rfl rfl ?_)|refine TL.nil ?_|refine aA ?_|refine aJ ?_|refine aC ?_)
 apply T.any 7 [is (.slice a n c),is (.int .i64 (i:Int)),slF F 1 i c (cs.take (i*1)),is (.slice a n c),is (.int .i64 (j:Int)),slF F 1 (n-j) (c-j) (cs.drop (j*1)),slsF 1 2 [cs.take (i*1),cs.drop (j*1)]]
 ·rfl
 ·repeat' (first|exact bW|refine bU ?_ ?_)
  iterate 2
   ·(refine aR rfl rfl rfl ?_);( intro wq _ _ hgq;(repeat (refine aG rfl rfl ?_;intro vq hvq;try (obtain rfl:=hvq)));(refine aN ?_))
    repeat (first|(refine aB ?_;refine TL.pure rfl rfl ?_)|refine TL.nil ?_)
    exact aT rfl yG rfl
  ·(refine aR rfl rfl rfl ?_);( intro wq _ _ hgq;(repeat (refine aG rfl rfl ?_;intro vq hvq;try (obtain rfl:=hvq)));(refine aN ?_))
   refine TL.slice (l:=0) (h:=i) (mm:=c) rfl (hs.grow hgq) (cA _) (dT rfl rfl) (cA c) (λ h=>by cases h) (Nat.zero_le _) (by omega) (by omega) (Nat.le_refl _) rfl ?_
   intro a' hsl _
   repeat (refine TL.nil ?_)
   refine aT rfl yG ⟨a',rfl,?_⟩
   simpa using hsl
  iterate 2
   ·(refine aR rfl rfl rfl ?_);( intro wq _ _ hgq;(repeat (refine aG rfl rfl ?_;intro vq hvq;try (obtain rfl:=hvq)));(refine aN ?_))
    repeat (first|(refine aB ?_;refine TL.pure rfl rfl ?_)|refine TL.nil ?_)
    exact aT rfl yG rfl
  ·(refine aR rfl rfl rfl ?_);( intro wq _ _ hgq;(repeat (refine aG rfl rfl ?_;intro vq hvq;try (obtain rfl:=hvq)));(refine aN ?_))
   refine TL.slice (l:=j) (h:=n) (mm:=c) rfl (hs.grow hgq) (dT rfl rfl) (cA _) (cA c) (λ _=>rfl) hj (Nat.le_refl _) hcap (Nat.le_refl _) rfl ?_
   intro a' hsl _
   repeat (refine TL.nil ?_)
   refine aT rfl yG ⟨a',rfl,?_⟩
   rw [List.take_of_length_le (by rw [List.length_drop];omega)] at hsl
   exact hsl
  ·refine aR rfl rfl rfl ?_
   intro wq _ _ hgq
   refine aG rfl rfl ?_
   intro v1 q1
   refine aG rfl rfl ?_
   intro v3 q3
   refine aN ?_
   obtain ⟨a1,rfl,s1⟩:=q1
   obtain ⟨a3,rfl,s3⟩:=q3
   refine TL.buildSlice rfl rfl rfl rfl rfl ?_
   intro b' wa hga hba hsa hsb hsc
   repeat (refine TL.nil ?_)
   refine aT rfl yG ⟨_,_,_,rfl,(bR (sz:=1) (m:=2) hba hsc (by decide)).mono (λ _ _=>trivial),⟨_,_,_,rfl,(s1.grow hga).mono (λ _ _=>trivial)⟩,⟨_,_,_,rfl,(s3.grow hga).mono (λ _ _=>trivial)⟩,trivial⟩
 ·intro w6 lo6 hi6 hg6 _ _
  iterate 7 (refine aG rfl rfl ?_;intro vq hvq;try (obtain rfl:=hvq))
  refine aN ?_
  obtain ⟨a6,c6,vs6,rfl,hs6,hp6⟩:=hvq
  have hup:jH 1 [cs.take (i*1),cs.drop (j*1)] 2=n-(j-i):=by
   simp only [jH,List.take_succ_cons,List.take_zero,List.map_cons,List.map_nil,List.sum_cons,List.sum_nil,List.length_take,List.length_drop]
   omega
  refine aL 160 ?_
  refine aI rfl (join_i _ a6 2 c6 vs6 [cs.take (i*1),cs.drop (j*1)] _ hs6 hp6 (by
   intro p hp u hu
   simp only [List.mem_cons,List.not_mem_nil,or_false] at hp
   rcases hp with rfl|rfl
   ·exact h1 u (List.mem_of_mem_take hu)
   ·exact h1 u (List.mem_of_mem_drop hu)) (by show jH _ _ 2≤_;omega)) rfl ?_
  rintro v w7 ⟨hown,hg7⟩
  rw [show ([cs.take (i*1),cs.drop (j*1)]:List (List Value)).length=2 from rfl,hup] at hown
  rw [show ([cs.take (i*1),cs.drop (j*1)]:List (List Value)).flatten=cs.take (i*1)++cs.drop (j*1) by simp] at hown
  repeat (first|(refine aD ?_;refine TL.pure rfl rfl ?_)|refine TL.nil ?_|refine aA ?_|refine bE ?_)
  exact cI rfl ⟨_,rfl,fI hown hg6.size,hg6.trans hg7⟩
theorem grow_k (m:Nat) (hm:m≤1000000) (w:World) :
  Calls Tryz.prog 246 #[.slice none 0 0,.int .i64 (m:Int)] w (Ret λ v w'=>w'.ownsRow w.heap.size 30 1 v 0 []∧Grow w w'):=by
 refine V.calls (args:=[_,_]) Tryz.func246 rfl Tryz.ntmps246 rfl rfl ?_
 by_cases h0:m=0
 ·subst h0
  repeat (first|(refine aB ?_;refine TL.pure rfl rfl ?_)|(refine aD ?_;refine TL.pure rfl rfl ?_)|(refine cN ?_;refine dN rfl rfl (by omega) (by omega) rfl ?_)|refine TL.nil ?_|refine aA ?_|refine aJ ?_|refine aC ?_|(refine aH ?_;refine aQ rfl yD rfl ?_)|refine aO rfl rfl ?_|refine aE rfl ?_|refine bE ?_|refine aW ?_|refine TL.capR rfl rfl ?_)
  exact cI rfl ⟨_,rfl,World.ownsRow_nil _ _ _ _,Grow.refl _⟩
 ·repeat (first|(refine aB ?_;refine TL.pure rfl rfl ?_)|(refine aD ?_;refine TL.pure rfl rfl ?_)|(refine cN ?_;refine dN rfl rfl (by omega) (by omega) rfl ?_)|refine TL.nil ?_|refine aA ?_|refine aJ ?_|refine aC ?_|(refine aH ?_;first|refine aZ rfl yD rfl ?_|refine aQ rfl yD rfl ?_)|refine aO rfl rfl ?_|refine aM rfl ?_|refine aE rfl ?_|refine aW ?_|refine TL.capR rfl rfl ?_)
  refine TL.slice (F:=λ _=>True) (cs:=[]) (l:=0) (h:=0) (mm:=0) rfl ⟨by simp,Nat.le_refl _,Nat.zero_le _,λ _=>rfl,by simp [Row]⟩ (cA _) (dT rfl rfl) (cA 0) (λ h=>by cases h) (Nat.le_refl _) (Nat.le_refl _) (Nat.le_refl _) (Nat.le_refl _) rfl ?_
  intro a' _ hn'
  obtain rfl:=hn'.2 rfl
  repeat ((refine aB ?_;refine TL.pure rfl rfl ?_))
  refine TL.appendNil (c:=m) (bytes:=24) rfl rfl (by omega) (by omega) hm rfl ?_
  intro b cap w1 hb hg1 hc1 hc2 hown
  repeat (first|(refine aB ?_;refine TL.pure rfl rfl ?_)|refine aO rfl rfl ?_)
  refine TL.sliceZ rfl rfl rfl (by omega) rfl ?_
  repeat (first|(refine aB ?_;refine TL.pure rfl rfl ?_)|(refine aD ?_;refine TL.pure rfl rfl ?_)|refine TL.nil ?_|refine aA ?_|refine aJ ?_|refine aC ?_|refine bE ?_)
  exact cI rfl ⟨_,rfl,hown,hg1⟩
theorem concat_k (F:Nat→Prop) (a:Option Addr) (n c:Nat) (vs:List Value) (ps:List (List Value)) (w:World) (hs:Sl F w 1 a n c vs) (hp:SlsAt F w 1 vs ps) (h1:∀ p∈ps,∀ u∈p,u.oneCell'=true) (hn:jH 1 ps ps.length≤1000000) :
  Calls Tryz.prog 202 #[.slice a n c] w (Ret λ v w'=>w'.ownsRow w.heap.size 30 1 v (jH 1 ps ps.length) ps.flatten∧Grow w w'):=by
 have hlen:=hs.len
 have hpl:=hp.len
 have hnle:=hs.le
 refine V.calls (args:=[_]) Tryz.func202 rfl Tryz.ntmps202 rfl rfl ?_
 repeat (first|(refine aB ?_;refine TL.pure rfl rfl ?_)|(refine aD ?_;refine TL.pure rfl rfl ?_)|refine TL.nil ?_|refine aA ?_|refine aJ ?_|refine aC ?_|refine T.block ?_|refine aO rfl rfl ?_)
 refine cU (S:=Nat) (λ i=>[(11,.int .i64 (i:Int)),(10,.int .i64 (n:Int)),(9,.slice a n c),(3,.int .i64 ((jH 1 ps i:Nat):Int)),(0,.slice a n c)]) (λ i w1=>Grow w w1∧i≤n) (λ i=>n-i) 0 ⟨rfl,rfl,rfl,rfl,rfl,trivial⟩ ⟨Grow.refl _,by omega⟩ ?_
 rintro i w1 ⟨hg1,hi⟩
 have hs1:=hs.grow hg1
 have hle:=upN_le (sz:=1) (ps:=ps) i
 by_cases hlt:i<n
 ·obtain ⟨p,hpi⟩:∃ p,ps[i]? = some p:=⟨_,List.getElem?_eq_getElem (by omega)⟩
  obtain ⟨ka,km,kc,g1,s1⟩:=hp.at' hpi
  have hcx:w1.cell? (at' a i)=some (.slice ka km kc):=hs1.row.cell g1
  have hle2:=upN_le (sz:=1) (ps:=ps) (i+1)
  have hpn:=s1.len
  have hsu:=mO (sz:=1) hpi
  have hkm:p.length / 1=km:=by omega
  rw [hkm] at hsu
  rw [hsu] at hle2
  repeat (first|(refine bC ?_;refine aV rfl rfl rfl hlt (Nat.mul_one _) ⟨F,_,hs1⟩ rfl ?_)|(refine aB ?_;refine TL.pure rfl rfl ?_)|(refine aD ?_;refine TL.pure rfl rfl ?_)|refine aK rfl yM rfl ?_|(refine bL ?_;refine bT rfl rfl (by omega) rfl ?_)|refine TL.nil ?_|refine aA ?_|refine aJ ?_|refine aC ?_|refine T.block ?_|refine aS ?_|(refine aH ?_;first|refine aZ rfl yD rfl ?_|refine aQ rfl yD rfl ?_)|refine aO rfl rfl ?_|refine aM rfl ?_|refine aE rfl ?_|refine aW ?_)
  exact bG (i+1) ⟨rfl,rfl,rfl,by rw [hsu];rfl,rfl,trivial⟩ ⟨hg1,by omega⟩ (by omega)
 obtain rfl:i=n:=by omega
 have hin:i=ps.length:=by omega
 obtain ⟨L,hL0⟩:∃ L,L=jH 1 ps i:=⟨_,rfl⟩
 have hL:L=jH 1 ps ps.length:=by rw [hL0,hin]
 rw [← hL] at hn hle ⊢
 rw [← hL0]
 repeat (first|(refine aB ?_;refine TL.pure rfl rfl ?_)|refine TL.nil ?_|refine aA ?_|refine aJ ?_|refine aC ?_|(refine aH ?_;refine aQ rfl yD rfl ?_)|refine aE rfl ?_|refine cV ?_|refine bN ?_|refine bP ?_|refine bO ?_)
 refine aL 246 ?_
 refine aI rfl (grow_k L hn _) rfl ?_
 rintro v w2 ⟨hown,hg2⟩
 have hown':=fI hown (show w.heap.size≤w1.heap.size from hg1.size)
 have hg3:=hg1.trans hg2
 repeat (first|(refine aB ?_;refine TL.pure rfl rfl ?_)|(refine aD ?_;refine TL.pure rfl rfl ?_)|refine TL.nil ?_|refine aA ?_|refine aJ ?_|refine aC ?_|refine T.block ?_|refine aO rfl rfl ?_)
 refine cU (S:=Value×Nat) (λ s=>[(27,.int .i64 (s.2:Int)),(26,.int .i64 (i:Int)),(25,.slice a i c),(6,s.1)]) (λ s w3=>s.2≤i∧w3.ownsRow w.heap.size 30 1 s.1 (jH 1 ps s.2) (ps.take s.2).flatten∧Grow w w3) (λ s=>i-s.2) (v,0) ⟨rfl,rfl,rfl,rfl,trivial⟩ ⟨by omega,by simpa [jH] using hown',hg3⟩ ?_
 clear hown hown' hg2 hg3 hg1 hs1
 rintro ⟨v,j⟩ w3 ⟨hj,hown,hg3⟩
 simp only at hj hown
 have hsz:=hg3.size
 have hs3:=hs.grow hg3
 by_cases hlt:j<i
 ·obtain ⟨p,hpj⟩:∃ p,ps[j]? = some p:=⟨_,List.getElem?_eq_getElem (by omega)⟩
  obtain ⟨ka,km,kc,g1,s1⟩:=hp.at' hpj
  have hcx:w3.cell? (at' a j)=some (.slice ka km kc):=hs3.row.cell g1
  have hle2:=upN_le (sz:=1) (ps:=ps) (j+1)
  have hpn:=s1.len
  have hsu:=mO (sz:=1) hpj
  have hkm:p.length / 1=km:=by omega
  rw [hkm] at hsu
  rw [hsu,← hL] at hle2
  repeat (first|(refine bC ?_;refine aV rfl rfl rfl hlt (Nat.mul_one _) ⟨F,_,hs3⟩ rfl ?_)|(refine aB ?_;refine TL.pure rfl rfl ?_)|(refine aD ?_;refine TL.pure rfl rfl ?_)|refine aK rfl yM rfl ?_|refine TL.nil ?_|refine aA ?_|refine aJ ?_|refine aC ?_|refine T.block ?_|(refine aH ?_;refine aZ rfl yD rfl ?_)|refine aM rfl ?_|refine aW ?_)
  refine TL.append rfl rfl hown (s1.grow hg3) (h1 p (List.mem_of_getElem? hpj)) (by unfold maxLen;omega) (by omega) (by omega) rfl ?_
  intro v' w4 hown4 hgb _
  repeat (first|(refine aB ?_;refine TL.pure rfl rfl ?_)|(refine aD ?_;refine TL.pure rfl rfl ?_)|(refine bL ?_;refine bT rfl rfl (by omega) rfl ?_)|refine TL.nil ?_|refine aA ?_|refine aC ?_|refine aS ?_)
  refine bG (v',j+1) ⟨rfl,rfl,rfl,rfl,trivial⟩ ⟨by simp only;omega,?_,Grow.mk (cH hgb (by omega) (λ k hk=>(cJ hown hk).1) hg3.1)⟩ (by simp only;omega)
  simp only
  rw [flatV_take hpj,hsu]
  exact hown4
 obtain rfl:j=i:=by omega
 rw [hin,List.take_length,← hL] at hown
 repeat (first|(refine aB ?_;refine TL.pure rfl rfl ?_)|(refine aD ?_;refine TL.pure rfl rfl ?_)|refine TL.nil ?_|refine aA ?_|refine aJ ?_|refine aC ?_|(refine aH ?_;refine aQ rfl yD rfl ?_)|refine aE rfl ?_|refine bE ?_|refine cV ?_|refine bN ?_|refine bP ?_|refine bO ?_)
 exact cI rfl ⟨_,rfl,hown,hg3⟩
theorem join_k (F:Nat→Prop) (a:Option Addr) (n c:Nat) (vs:List Value) (ps:List (List Value)) (w:World) (hs:Sl F w 1 a n c vs) (hp:SlsAt F w 1 vs ps) (h1:∀ p∈ps,∀ u∈p,u.oneCell'=true) (hn:jH 1 ps ps.length≤1000000) :
  Calls Tryz.prog 161 #[.slice a n c] w (Ret λ v w'=>w'.ownsRow w.heap.size 30 1 v (jH 1 ps ps.length) ps.flatten∧Grow w w'):=by
 refine V.calls (args:=[_]) Tryz.func161 rfl Tryz.ntmps161 rfl rfl ?_
 repeat (first|(refine aB ?_;refine TL.pure rfl rfl ?_)|(refine aD ?_;refine TL.pure rfl rfl ?_)|refine TL.nil ?_|refine aA ?_|refine aJ ?_|refine aC ?_)
 refine aL 202 ?_
 refine aI rfl (concat_k F a n c vs ps _ hs hp h1 hn) rfl ?_
 rintro v w2 ⟨hown,hg2⟩
 repeat (first|(refine aD ?_;refine TL.pure rfl rfl ?_)|refine TL.nil ?_|refine aA ?_|refine bE ?_)
 exact cI rfl ⟨_,rfl,hown,hg2⟩
theorem insert_k (F G:Nat→Prop) (a b:Option Addr) (n c m d i:Nat) (cs xs:List Value) (w:World) (hs:Sl F w 1 a n c cs) (hx:Sl G w 1 b m d xs) (h1:∀ u∈cs,u.oneCell'=true) (h2:∀ u∈xs,u.oneCell'=true) (hi:i≤n) (hn:n+m≤1000000) :
  Calls Tryz.prog 98 #[.slice a n c,.int .i64 (i:Int),.slice b m d] w (Ret λ v w'=>w'.ownsRow w.heap.size 30 1 v (n+m) (cs.take (i*1)++xs++cs.drop (i*1))∧Grow w w'):=by
 have hcap:=hs.cap
 have hlen:=hs.len
 have hlx:=hx.len
 refine V.calls (args:=[_,_,_]) Tryz.func98 rfl Tryz.ntmps98 rfl rfl ?_
 repeat (first|(refine aD ?_;refine TL.pure rfl rfl ?_)|refine TL.nil ?_|refine aA ?_|refine aJ ?_|refine aC ?_)
 apply T.any 8 [is (.slice a n c),is (.int .i64 (i:Int)),slF F 1 i c (cs.take (i*1)),is (.slice b m d),is (.slice a n c),is (.int .i64 (i:Int)),slF F 1 (n-i) (c-i) (cs.drop (i*1)),slsF 1 3 [cs.take (i*1),xs,cs.drop (i*1)]]
 ·rfl
 ·repeat' (first|exact bW|refine bU ?_ ?_)
  iterate 2
   ·(refine aR rfl rfl rfl ?_);( intro wq _ _ hgq;(repeat (refine aG rfl rfl ?_;intro vq hvq;try (obtain rfl:=hvq)));(refine aN ?_))
    repeat (first|(refine aB ?_;refine TL.pure rfl rfl ?_)|refine TL.nil ?_)
    exact aT rfl yG rfl
  ·(refine aR rfl rfl rfl ?_);( intro wq _ _ hgq;(repeat (refine aG rfl rfl ?_;intro vq hvq;try (obtain rfl:=hvq)));(refine aN ?_))
   refine TL.slice (l:=0) (h:=i) (mm:=c) rfl (hs.grow hgq) (cA _) (dT rfl rfl) (cA c) (λ h=>by cases h) (Nat.zero_le _) hi (by omega) (Nat.le_refl _) rfl ?_
   intro a' hsl _
   repeat (refine TL.nil ?_)
   refine aT rfl yG ⟨a',rfl,?_⟩
   simpa using hsl
  iterate 3
   ·(refine aR rfl rfl rfl ?_);( intro wq _ _ hgq;(repeat (refine aG rfl rfl ?_;intro vq hvq;try (obtain rfl:=hvq)));(refine aN ?_))
    repeat (first|(refine aB ?_;refine TL.pure rfl rfl ?_)|refine TL.nil ?_)
    exact aT rfl yG rfl
  ·(refine aR rfl rfl rfl ?_);( intro wq _ _ hgq;(repeat (refine aG rfl rfl ?_;intro vq hvq;try (obtain rfl:=hvq)));(refine aN ?_))
   refine TL.slice (l:=i) (h:=n) (mm:=c) rfl (hs.grow hgq) (dT rfl rfl) (cA _) (cA c) (λ _=>rfl) hi (Nat.le_refl _) hcap (Nat.le_refl _) rfl ?_
   intro a' hsl _
   repeat (refine TL.nil ?_)
   refine aT rfl yG ⟨a',rfl,?_⟩
   rw [List.take_of_length_le (by rw [List.length_drop];omega)] at hsl
   exact hsl
  ·refine aR rfl rfl rfl ?_
   intro wq _ _ hgq
   refine aG rfl rfl ?_
   intro v1 q1
   refine aG rfl rfl ?_
   intro v2 q2
   obtain rfl:=q2
   refine aG rfl rfl ?_
   intro v3 q3
   refine aN ?_
   obtain ⟨a1,rfl,s1⟩:=q1
   obtain ⟨a3,rfl,s3⟩:=q3
   refine TL.buildSlice rfl rfl rfl rfl rfl ?_
   intro b' wa hga hba hsa hsb hsc
   repeat (refine TL.nil ?_)
   refine aT rfl yG ⟨_,_,_,rfl,(bR (sz:=1) (m:=3) hba hsc (by decide)).mono (λ _ _=>trivial),⟨_,_,_,rfl,(s1.grow hga).mono (λ _ _=>trivial)⟩,⟨_,_,_,rfl,((hx.grow hgq).grow hga).mono (λ _ _=>trivial)⟩,⟨_,_,_,rfl,(s3.grow hga).mono (λ _ _=>trivial)⟩,trivial⟩
 ·intro w6 lo6 hi6 hg6 _ _
  iterate 8 (refine aG rfl rfl ?_;intro vq hvq;try (obtain rfl:=hvq))
  refine aN ?_
  obtain ⟨a6,c6,vs6,rfl,hs6,hp6⟩:=hvq
  have hup:jH 1 [cs.take (i*1),xs,cs.drop (i*1)] 3=n+m:=by
   simp only [jH,List.take_succ_cons,List.take_zero,List.map_cons,List.map_nil,List.sum_cons,List.sum_nil,List.length_take,List.length_drop]
   omega
  refine aL 161 ?_
  refine aI rfl (join_k _ a6 3 c6 vs6 [cs.take (i*1),xs,cs.drop (i*1)] _ hs6 hp6 (by
   intro p hp u hu
   simp only [List.mem_cons,List.not_mem_nil,or_false] at hp
   rcases hp with rfl|rfl|rfl
   ·exact h1 u (List.mem_of_mem_take hu)
   ·exact h2 u hu
   ·exact h1 u (List.mem_of_mem_drop hu)) (by show jH _ _ 3≤_;omega)) rfl ?_
  rintro v w7 ⟨hown,hg7⟩
  rw [show ([cs.take (i*1),xs,cs.drop (i*1)]:List (List Value)).length=3 from rfl,hup] at hown
  rw [show ([cs.take (i*1),xs,cs.drop (i*1)]:List (List Value)).flatten=cs.take (i*1)++xs++cs.drop (i*1) by simp] at hown
  repeat (first|(refine aD ?_;refine TL.pure rfl rfl ?_)|refine TL.nil ?_|refine aA ?_|refine bE ?_)
  exact cI rfl ⟨_,rfl,fI hown hg6.size,hg6.trans hg7⟩
theorem cut_k (F:Nat→Prop) (a:Option Addr) (n c i j:Nat) (cs:List Value) (w:World) (hs:Sl F w 1 a n c cs) (h1:∀ u∈cs,u.oneCell'=true) (hij:i≤j) (hj:j≤n) (hn:n≤1000000) :
  Calls Tryz.prog 194 #[.slice a n c,.int .i64 (i:Int),.int .i64 (j:Int)] w (Ret λ v w'=>w'.ownsRow w.heap.size 30 1 v (n-(j-i)) (cs.take (i*1)++cs.drop (j*1))∧Grow w w'):=by
 have hcap:=hs.cap
 have hlen:=hs.len
 refine V.calls (args:=[_,_,_]) Tryz.func194 rfl Tryz.ntmps194 rfl rfl ?_
 repeat (first|(refine aD ?_;refine TL.pure rfl rfl ?_)|refine TL.nil ?_|refine aA ?_|refine aJ ?_|refine aC ?_)
 apply T.any 7 [is (.slice a n c),is (.int .i64 (i:Int)),slF F 1 i c (cs.take (i*1)),is (.slice a n c),is (.int .i64 (j:Int)),slF F 1 (n-j) (c-j) (cs.drop (j*1)),slsF 1 2 [cs.take (i*1),cs.drop (j*1)]]
 ·rfl
 ·repeat' (first|exact bW|refine bU ?_ ?_)
  iterate 2
   ·(refine aR rfl rfl rfl ?_);( intro wq _ _ hgq;(repeat (refine aG rfl rfl ?_;intro vq hvq;try (obtain rfl:=hvq)));(refine aN ?_))
    repeat (first|(refine aB ?_;refine TL.pure rfl rfl ?_)|refine TL.nil ?_)
    exact aT rfl yG rfl
  ·(refine aR rfl rfl rfl ?_);( intro wq _ _ hgq;(repeat (refine aG rfl rfl ?_;intro vq hvq;try (obtain rfl:=hvq)));(refine aN ?_))
   refine TL.slice (l:=0) (h:=i) (mm:=c) rfl (hs.grow hgq) (cA _) (dT rfl rfl) (cA c) (λ h=>by cases h) (Nat.zero_le _) (by omega) (by omega) (Nat.le_refl _) rfl ?_
   intro a' hsl _
   repeat (refine TL.nil ?_)
   refine aT rfl yG ⟨a',rfl,?_⟩
   simpa using hsl
  iterate 2
   ·(refine aR rfl rfl rfl ?_);( intro wq _ _ hgq;(repeat (refine aG rfl rfl ?_;intro vq hvq;try (obtain rfl:=hvq)));(refine aN ?_))
    repeat (first|(refine aB ?_;refine TL.pure rfl rfl ?_)|refine TL.nil ?_)
    exact aT rfl yG rfl
  ·(refine aR rfl rfl rfl ?_);( intro wq _ _ hgq;(repeat (refine aG rfl rfl ?_;intro vq hvq;try (obtain rfl:=hvq)));(refine aN ?_))
   refine TL.slice (l:=j) (h:=n) (mm:=c) rfl (hs.grow hgq) (dT rfl rfl) (cA _) (cA c) (λ _=>rfl) hj (Nat.le_refl _) hcap (Nat.le_refl _) rfl ?_
   intro a' hsl _
   repeat (refine TL.nil ?_)
   refine aT rfl yG ⟨a',rfl,?_⟩
   rw [List.take_of_length_le (by rw [List.length_drop];omega)] at hsl
   exact hsl
  ·refine aR rfl rfl rfl ?_
   intro wq _ _ hgq
   refine aG rfl rfl ?_
   intro v1 q1
   refine aG rfl rfl ?_
   intro v3 q3
   refine aN ?_
   obtain ⟨a1,rfl,s1⟩:=q1
   obtain ⟨a3,rfl,s3⟩:=q3
   refine TL.buildSlice rfl rfl rfl rfl rfl ?_
   intro b' wa hga hba hsa hsb hsc
   repeat (refine TL.nil ?_)
   refine aT rfl yG ⟨_,_,_,rfl,(bR (sz:=1) (m:=2) hba hsc (by decide)).mono (λ _ _=>trivial),⟨_,_,_,rfl,(s1.grow hga).mono (λ _ _=>trivial)⟩,⟨_,_,_,rfl,(s3.grow hga).mono (λ _ _=>trivial)⟩,trivial⟩
 ·intro w6 lo6 hi6 hg6 _ _
  iterate 7 (refine aG rfl rfl ?_;intro vq hvq;try (obtain rfl:=hvq))
  refine aN ?_
  obtain ⟨a6,c6,vs6,rfl,hs6,hp6⟩:=hvq
  have hup:jH 1 [cs.take (i*1),cs.drop (j*1)] 2=n-(j-i):=by
   simp only [jH,List.take_succ_cons,List.take_zero,List.map_cons,List.map_nil,List.sum_cons,List.sum_nil,List.length_take,List.length_drop]
   omega
  refine aL 161 ?_
  refine aI rfl (join_k _ a6 2 c6 vs6 [cs.take (i*1),cs.drop (j*1)] _ hs6 hp6 (by
   intro p hp u hu
   simp only [List.mem_cons,List.not_mem_nil,or_false] at hp
   rcases hp with rfl|rfl
   ·exact h1 u (List.mem_of_mem_take hu)
   ·exact h1 u (List.mem_of_mem_drop hu)) (by show jH _ _ 2≤_;omega)) rfl ?_
  rintro v w7 ⟨hown,hg7⟩
  rw [show ([cs.take (i*1),cs.drop (j*1)]:List (List Value)).length=2 from rfl,hup] at hown
  rw [show ([cs.take (i*1),cs.drop (j*1)]:List (List Value)).flatten=cs.take (i*1)++cs.drop (j*1) by simp] at hown
  repeat (first|(refine aD ?_;refine TL.pure rfl rfl ?_)|refine TL.nil ?_|refine aA ?_|refine bE ?_)
  exact cI rfl ⟨_,rfl,fI hown hg6.size,hg6.trans hg7⟩
theorem grow_t (m:Nat) (hm:m≤1000000) (w:World) :
  Calls Tryz.prog 231 #[.slice none 0 0,.int .i64 (m:Int)] w (Ret λ v w'=>w'.ownsRow w.heap.size 58 2 v 0 []∧Grow w w'):=by
 refine V.calls (args:=[_,_]) Tryz.func231 rfl Tryz.ntmps231 rfl rfl ?_
 by_cases h0:m=0
 ·subst h0
  repeat (first|(refine aB ?_;refine TL.pure rfl rfl ?_)|(refine aD ?_;refine TL.pure rfl rfl ?_)|(refine cN ?_;refine dN rfl rfl (by omega) (by omega) rfl ?_)|refine TL.nil ?_|refine aA ?_|refine aJ ?_|refine aC ?_|(refine aH ?_;refine aQ rfl yD rfl ?_)|refine aO rfl rfl ?_|refine aE rfl ?_|refine bE ?_|refine aW ?_|refine TL.capR rfl rfl ?_)
  exact cI rfl ⟨_,rfl,World.ownsRow_nil _ _ _ _,Grow.refl _⟩
 ·repeat (first|(refine aB ?_;refine TL.pure rfl rfl ?_)|(refine aD ?_;refine TL.pure rfl rfl ?_)|(refine cN ?_;refine dN rfl rfl (by omega) (by omega) rfl ?_)|refine TL.nil ?_|refine aA ?_|refine aJ ?_|refine aC ?_|(refine aH ?_;first|refine aZ rfl yD rfl ?_|refine aQ rfl yD rfl ?_)|refine aO rfl rfl ?_|refine aM rfl ?_|refine aE rfl ?_|refine aW ?_|refine TL.capR rfl rfl ?_)
  refine TL.slice (F:=λ _=>True) (cs:=[]) (l:=0) (h:=0) (mm:=0) rfl ⟨by simp,Nat.le_refl _,Nat.zero_le _,λ _=>rfl,by simp [Row]⟩ (cA _) (dT rfl rfl) (cA 0) (λ h=>by cases h) (Nat.le_refl _) (Nat.le_refl _) (Nat.le_refl _) (Nat.le_refl _) rfl ?_
  intro a' _ hn'
  obtain rfl:=hn'.2 rfl
  repeat ((refine aB ?_;refine TL.pure rfl rfl ?_))
  refine TL.appendNil (c:=m) (bytes:=48) rfl rfl (by omega) (by omega) hm rfl ?_
  intro b cap w1 hb hg1 hc1 hc2 hown
  repeat (first|(refine aB ?_;refine TL.pure rfl rfl ?_)|refine aO rfl rfl ?_)
  refine TL.sliceZ rfl rfl rfl (by omega) rfl ?_
  repeat (first|(refine aB ?_;refine TL.pure rfl rfl ?_)|(refine aD ?_;refine TL.pure rfl rfl ?_)|refine TL.nil ?_|refine aA ?_|refine aJ ?_|refine aC ?_|refine bE ?_)
  exact cI rfl ⟨_,rfl,hown,hg1⟩
theorem concat_t (F:Nat→Prop) (a:Option Addr) (n c:Nat) (vs:List Value) (ps:List (List Value)) (w:World) (hs:Sl F w 1 a n c vs) (hp:SlsAt F w 2 vs ps) (h1:∀ p∈ps,∀ u∈p,u.oneCell'=true) (hn:jH 2 ps ps.length≤1000000) :
  Calls Tryz.prog 190 #[.slice a n c] w (Ret λ v w'=>w'.ownsRow w.heap.size 58 2 v (jH 2 ps ps.length) ps.flatten∧Grow w w'):=by
 have hlen:=hs.len
 have hpl:=hp.len
 have hnle:=hs.le
 refine V.calls (args:=[_]) Tryz.func190 rfl Tryz.ntmps190 rfl rfl ?_
 repeat (first|(refine aB ?_;refine TL.pure rfl rfl ?_)|(refine aD ?_;refine TL.pure rfl rfl ?_)|refine TL.nil ?_|refine aA ?_|refine aJ ?_|refine aC ?_|refine T.block ?_|refine aO rfl rfl ?_)
 refine cU (S:=Nat) (λ i=>[(11,.int .i64 (i:Int)),(10,.int .i64 (n:Int)),(9,.slice a n c),(3,.int .i64 ((jH 2 ps i:Nat):Int)),(0,.slice a n c)]) (λ i w1=>Grow w w1∧i≤n) (λ i=>n-i) 0 ⟨rfl,rfl,rfl,rfl,rfl,trivial⟩ ⟨Grow.refl _,by omega⟩ ?_
 rintro i w1 ⟨hg1,hi⟩
 have hs1:=hs.grow hg1
 have hle:=upN_le (sz:=2) (ps:=ps) i
 by_cases hlt:i<n
 ·obtain ⟨p,hpi⟩:∃ p,ps[i]? = some p:=⟨_,List.getElem?_eq_getElem (by omega)⟩
  obtain ⟨ka,km,kc,g1,s1⟩:=hp.at' hpi
  have hcx:w1.cell? (at' a i)=some (.slice ka km kc):=hs1.row.cell g1
  have hle2:=upN_le (sz:=2) (ps:=ps) (i+1)
  have hpn:=s1.len
  have hsu:=mO (sz:=2) hpi
  have hkm:p.length / 2=km:=by omega
  rw [hkm] at hsu
  rw [hsu] at hle2
  repeat (first|(refine bC ?_;refine aV rfl rfl rfl hlt (Nat.mul_one _) ⟨F,_,hs1⟩ rfl ?_)|(refine aB ?_;refine TL.pure rfl rfl ?_)|(refine aD ?_;refine TL.pure rfl rfl ?_)|refine aK rfl yM rfl ?_|(refine bL ?_;refine bT rfl rfl (by omega) rfl ?_)|refine TL.nil ?_|refine aA ?_|refine aJ ?_|refine aC ?_|refine T.block ?_|refine aS ?_|(refine aH ?_;first|refine aZ rfl yD rfl ?_|refine aQ rfl yD rfl ?_)|refine aO rfl rfl ?_|refine aM rfl ?_|refine aE rfl ?_|refine aW ?_)
  exact bG (i+1) ⟨rfl,rfl,rfl,by rw [hsu];rfl,rfl,trivial⟩ ⟨hg1,by omega⟩ (by omega)
 obtain rfl:i=n:=by omega
 have hin:i=ps.length:=by omega
 obtain ⟨L,hL0⟩:∃ L,L=jH 2 ps i:=⟨_,rfl⟩
 have hL:L=jH 2 ps ps.length:=by rw [hL0,hin]
 rw [← hL] at hn hle ⊢
 rw [← hL0]
 repeat (first|(refine aB ?_;refine TL.pure rfl rfl ?_)|refine TL.nil ?_|refine aA ?_|refine aJ ?_|refine aC ?_|(refine aH ?_;refine aQ rfl yD rfl ?_)|refine aE rfl ?_|refine cV ?_|refine bN ?_|refine bP ?_|refine bO ?_)
 refine aL 231 ?_
 refine aI rfl (grow_t L hn _) rfl ?_
 rintro v w2 ⟨hown,hg2⟩
 have hown':=fI hown (show w.heap.size≤w1.heap.size from hg1.size)
 have hg3:=hg1.trans hg2
 repeat (first|(refine aB ?_;refine TL.pure rfl rfl ?_)|(refine aD ?_;refine TL.pure rfl rfl ?_)|refine TL.nil ?_|refine aA ?_|refine aJ ?_|refine aC ?_|refine T.block ?_|refine aO rfl rfl ?_)
 refine cU (S:=Value×Nat) (λ s=>[(27,.int .i64 (s.2:Int)),(26,.int .i64 (i:Int)),(25,.slice a i c),(6,s.1)]) (λ s w3=>s.2≤i∧w3.ownsRow w.heap.size 58 2 s.1 (jH 2 ps s.2) (ps.take s.2).flatten∧Grow w w3) (λ s=>i-s.2) (v,0) ⟨rfl,rfl,rfl,rfl,trivial⟩ ⟨by omega,by simpa [jH] using hown',hg3⟩ ?_
 clear hown hown' hg2 hg3 hg1 hs1
 rintro ⟨v,j⟩ w3 ⟨hj,hown,hg3⟩
 simp only at hj hown
 have hsz:=hg3.size
 have hs3:=hs.grow hg3
 by_cases hlt:j<i
 ·obtain ⟨p,hpj⟩:∃ p,ps[j]? = some p:=⟨_,List.getElem?_eq_getElem (by omega)⟩
  obtain ⟨ka,km,kc,g1,s1⟩:=hp.at' hpj
  have hcx:w3.cell? (at' a j)=some (.slice ka km kc):=hs3.row.cell g1
  have hle2:=upN_le (sz:=2) (ps:=ps) (j+1)
  have hpn:=s1.len
  have hsu:=mO (sz:=2) hpj
  have hkm:p.length / 2=km:=by omega
  rw [hkm] at hsu
  rw [hsu,← hL] at hle2
  repeat (first|(refine bC ?_;refine aV rfl rfl rfl hlt (Nat.mul_one _) ⟨F,_,hs3⟩ rfl ?_)|(refine aB ?_;refine TL.pure rfl rfl ?_)|(refine aD ?_;refine TL.pure rfl rfl ?_)|refine aK rfl yM rfl ?_|refine TL.nil ?_|refine aA ?_|refine aJ ?_|refine aC ?_|refine T.block ?_|(refine aH ?_;refine aZ rfl yD rfl ?_)|refine aM rfl ?_|refine aW ?_)
  refine TL.append rfl rfl hown (s1.grow hg3) (h1 p (List.mem_of_getElem? hpj)) (by unfold maxLen;omega) (by omega) (by omega) rfl ?_
  intro v' w4 hown4 hgb _
  repeat (first|(refine aB ?_;refine TL.pure rfl rfl ?_)|(refine aD ?_;refine TL.pure rfl rfl ?_)|(refine bL ?_;refine bT rfl rfl (by omega) rfl ?_)|refine TL.nil ?_|refine aA ?_|refine aC ?_|refine aS ?_)
  refine bG (v',j+1) ⟨rfl,rfl,rfl,rfl,trivial⟩ ⟨by simp only;omega,?_,Grow.mk (cH hgb (by omega) (λ k hk=>(cJ hown hk).1) hg3.1)⟩ (by simp only;omega)
  simp only
  rw [flatV_take hpj,hsu]
  exact hown4
 obtain rfl:j=i:=by omega
 rw [hin,List.take_length,← hL] at hown
 repeat (first|(refine aB ?_;refine TL.pure rfl rfl ?_)|(refine aD ?_;refine TL.pure rfl rfl ?_)|refine TL.nil ?_|refine aA ?_|refine aJ ?_|refine aC ?_|(refine aH ?_;refine aQ rfl yD rfl ?_)|refine aE rfl ?_|refine bE ?_|refine cV ?_|refine bN ?_|refine bP ?_|refine bO ?_)
 exact cI rfl ⟨_,rfl,hown,hg3⟩
theorem join_t (F:Nat→Prop) (a:Option Addr) (n c:Nat) (vs:List Value) (ps:List (List Value)) (w:World) (hs:Sl F w 1 a n c vs) (hp:SlsAt F w 2 vs ps) (h1:∀ p∈ps,∀ u∈p,u.oneCell'=true) (hn:jH 2 ps ps.length≤1000000) :
  Calls Tryz.prog 152 #[.slice a n c] w (Ret λ v w'=>w'.ownsRow w.heap.size 58 2 v (jH 2 ps ps.length) ps.flatten∧Grow w w'):=by
 refine V.calls (args:=[_]) Tryz.func152 rfl Tryz.ntmps152 rfl rfl ?_
 repeat (first|(refine aB ?_;refine TL.pure rfl rfl ?_)|(refine aD ?_;refine TL.pure rfl rfl ?_)|refine TL.nil ?_|refine aA ?_|refine aJ ?_|refine aC ?_)
 refine aL 190 ?_
 refine aI rfl (concat_t F a n c vs ps _ hs hp h1 hn) rfl ?_
 rintro v w2 ⟨hown,hg2⟩
 repeat (first|(refine aD ?_;refine TL.pure rfl rfl ?_)|refine TL.nil ?_|refine aA ?_|refine bE ?_)
 exact cI rfl ⟨_,rfl,hown,hg2⟩
theorem insert_t (F G:Nat→Prop) (a b:Option Addr) (n c m d i:Nat) (cs xs:List Value) (w:World) (hs:Sl F w 2 a n c cs) (hx:Sl G w 2 b m d xs) (h1:∀ u∈cs,u.oneCell'=true) (h2:∀ u∈xs,u.oneCell'=true) (hi:i≤n) (hn:n+m≤1000000) :
  Calls Tryz.prog 99 #[.slice a n c,.int .i64 (i:Int),.slice b m d] w (Ret λ v w'=>w'.ownsRow w.heap.size 58 2 v (n+m) (cs.take (i*2)++xs++cs.drop (i*2))∧Grow w w'):=by
 have hcap:=hs.cap
 have hlen:=hs.len
 have hlx:=hx.len
 refine V.calls (args:=[_,_,_]) Tryz.func99 rfl Tryz.ntmps99 rfl rfl ?_
 repeat (first|(refine aD ?_;refine TL.pure rfl rfl ?_)|refine TL.nil ?_|refine aA ?_|refine aJ ?_|refine aC ?_)
 apply T.any 8 [is (.slice a n c),is (.int .i64 (i:Int)),slF F 2 i c (cs.take (i*2)),is (.slice b m d),is (.slice a n c),is (.int .i64 (i:Int)),slF F 2 (n-i) (c-i) (cs.drop (i*2)),slsF 2 3 [cs.take (i*2),xs,cs.drop (i*2)]]
 ·rfl
 ·repeat' (first|exact bW|refine bU ?_ ?_)
  iterate 2
   ·(refine aR rfl rfl rfl ?_);( intro wq _ _ hgq;(repeat (refine aG rfl rfl ?_;intro vq hvq;try (obtain rfl:=hvq)));(refine aN ?_))
    repeat (first|(refine aB ?_;refine TL.pure rfl rfl ?_)|refine TL.nil ?_)
    exact aT rfl yG rfl
  ·(refine aR rfl rfl rfl ?_);( intro wq _ _ hgq;(repeat (refine aG rfl rfl ?_;intro vq hvq;try (obtain rfl:=hvq)));(refine aN ?_))
   refine TL.slice (l:=0) (h:=i) (mm:=c) rfl (hs.grow hgq) (cA _) (dT rfl rfl) (cA c) (λ h=>by cases h) (Nat.zero_le _) hi (by omega) (Nat.le_refl _) rfl ?_
   intro a' hsl _
   repeat (refine TL.nil ?_)
   refine aT rfl yG ⟨a',rfl,?_⟩
   simpa using hsl
  iterate 3
   ·(refine aR rfl rfl rfl ?_);( intro wq _ _ hgq;(repeat (refine aG rfl rfl ?_;intro vq hvq;try (obtain rfl:=hvq)));(refine aN ?_))
    repeat (first|(refine aB ?_;refine TL.pure rfl rfl ?_)|refine TL.nil ?_)
    exact aT rfl yG rfl
  ·(refine aR rfl rfl rfl ?_);( intro wq _ _ hgq;(repeat (refine aG rfl rfl ?_;intro vq hvq;try (obtain rfl:=hvq)));(refine aN ?_))
   refine TL.slice (l:=i) (h:=n) (mm:=c) rfl (hs.grow hgq) (dT rfl rfl) (cA _) (cA c) (λ _=>rfl) hi (Nat.le_refl _) hcap (Nat.le_refl _) rfl ?_
   intro a' hsl _
   repeat (refine TL.nil ?_)
   refine aT rfl yG ⟨a',rfl,?_⟩
   rw [List.take_of_length_le (by rw [List.length_drop];omega)] at hsl
   exact hsl
  ·refine aR rfl rfl rfl ?_
   intro wq _ _ hgq
   refine aG rfl rfl ?_
   intro v1 q1
   refine aG rfl rfl ?_
   intro v2 q2
   obtain rfl:=q2
   refine aG rfl rfl ?_
   intro v3 q3
   refine aN ?_
   obtain ⟨a1,rfl,s1⟩:=q1
   obtain ⟨a3,rfl,s3⟩:=q3
   refine TL.buildSlice rfl rfl rfl rfl rfl ?_
   intro b' wa hga hba hsa hsb hsc
   repeat (refine TL.nil ?_)
   refine aT rfl yG ⟨_,_,_,rfl,(bR (sz:=1) (m:=3) hba hsc (by decide)).mono (λ _ _=>trivial),⟨_,_,_,rfl,(s1.grow hga).mono (λ _ _=>trivial)⟩,⟨_,_,_,rfl,((hx.grow hgq).grow hga).mono (λ _ _=>trivial)⟩,⟨_,_,_,rfl,(s3.grow hga).mono (λ _ _=>trivial)⟩,trivial⟩
 ·intro w6 lo6 hi6 hg6 _ _
  iterate 8 (refine aG rfl rfl ?_;intro vq hvq;try (obtain rfl:=hvq))
  refine aN ?_
  obtain ⟨a6,c6,vs6,rfl,hs6,hp6⟩:=hvq
  have hup:jH 2 [cs.take (i*2),xs,cs.drop (i*2)] 3=n+m:=by
   simp only [jH,List.take_succ_cons,List.take_zero,List.map_cons,List.map_nil,List.sum_cons,List.sum_nil,List.length_take,List.length_drop]
   omega
  refine aL 152 ?_
  refine aI rfl (join_t _ a6 3 c6 vs6 [cs.take (i*2),xs,cs.drop (i*2)] _ hs6 hp6 (by
   intro p hp u hu
   simp only [List.mem_cons,List.not_mem_nil,or_false] at hp
   rcases hp with rfl|rfl|rfl
   ·exact h1 u (List.mem_of_mem_take hu)
   ·exact h2 u hu
   ·exact h1 u (List.mem_of_mem_drop hu)) (by show jH _ _ 3≤_;omega)) rfl ?_
  rintro v w7 ⟨hown,hg7⟩
  rw [show ([cs.take (i*2),xs,cs.drop (i*2)]:List (List Value)).length=3 from rfl,hup] at hown
  rw [show ([cs.take (i*2),xs,cs.drop (i*2)]:List (List Value)).flatten=cs.take (i*2)++xs++cs.drop (i*2) by simp] at hown
  repeat (first|(refine aD ?_;refine TL.pure rfl rfl ?_)|refine TL.nil ?_|refine aA ?_|refine bE ?_)
  exact cI rfl ⟨_,rfl,fI hown hg6.size,hg6.trans hg7⟩
theorem cut_t (F:Nat→Prop) (a:Option Addr) (n c i j:Nat) (cs:List Value) (w:World) (hs:Sl F w 2 a n c cs) (h1:∀ u∈cs,u.oneCell'=true) (hij:i≤j) (hj:j≤n) (hn:n≤1000000) :
  Calls Tryz.prog 81 #[.slice a n c,.int .i64 (i:Int),.int .i64 (j:Int)] w (Ret λ v w'=>w'.ownsRow w.heap.size 58 2 v (n-(j-i)) (cs.take (i*2)++cs.drop (j*2))∧Grow w w'):=by
 have hcap:=hs.cap
 have hlen:=hs.len
 refine V.calls (args:=[_,_,_]) Tryz.func81 rfl Tryz.ntmps81 rfl rfl ?_
 repeat (first|(refine aD ?_;refine TL.pure rfl rfl ?_)|refine TL.nil ?_|refine aA ?_|refine aJ ?_|refine aC ?_)
 apply T.any 7 [is (.slice a n c),is (.int .i64 (i:Int)),slF F 2 i c (cs.take (i*2)),is (.slice a n c),is (.int .i64 (j:Int)),slF F 2 (n-j) (c-j) (cs.drop (j*2)),slsF 2 2 [cs.take (i*2),cs.drop (j*2)]]
 ·rfl
 ·repeat' (first|exact bW|refine bU ?_ ?_)
  iterate 2
   ·(refine aR rfl rfl rfl ?_);( intro wq _ _ hgq;(repeat (refine aG rfl rfl ?_;intro vq hvq;try (obtain rfl:=hvq)));(refine aN ?_))
    repeat (first|(refine aB ?_;refine TL.pure rfl rfl ?_)|refine TL.nil ?_)
    exact aT rfl yG rfl
  ·(refine aR rfl rfl rfl ?_);( intro wq _ _ hgq;(repeat (refine aG rfl rfl ?_;intro vq hvq;try (obtain rfl:=hvq)));(refine aN ?_))
   refine TL.slice (l:=0) (h:=i) (mm:=c) rfl (hs.grow hgq) (cA _) (dT rfl rfl) (cA c) (λ h=>by cases h) (Nat.zero_le _) (by omega) (by omega) (Nat.le_refl _) rfl ?_
   intro a' hsl _
   repeat (refine TL.nil ?_)
   refine aT rfl yG ⟨a',rfl,?_⟩
   simpa using hsl
  iterate 2
   ·(refine aR rfl rfl rfl ?_);( intro wq _ _ hgq;(repeat (refine aG rfl rfl ?_;intro vq hvq;try (obtain rfl:=hvq)));(refine aN ?_))
    repeat (first|(refine aB ?_;refine TL.pure rfl rfl ?_)|refine TL.nil ?_)
    exact aT rfl yG rfl
  ·(refine aR rfl rfl rfl ?_);( intro wq _ _ hgq;(repeat (refine aG rfl rfl ?_;intro vq hvq;try (obtain rfl:=hvq)));(refine aN ?_))
   refine TL.slice (l:=j) (h:=n) (mm:=c) rfl (hs.grow hgq) (dT rfl rfl) (cA _) (cA c) (λ _=>rfl) hj (Nat.le_refl _) hcap (Nat.le_refl _) rfl ?_
   intro a' hsl _
   repeat (refine TL.nil ?_)
   refine aT rfl yG ⟨a',rfl,?_⟩
   rw [List.take_of_length_le (by rw [List.length_drop];omega)] at hsl
   exact hsl
  ·refine aR rfl rfl rfl ?_
   intro wq _ _ hgq
   refine aG rfl rfl ?_
   intro v1 q1
   refine aG rfl rfl ?_
   intro v3 q3
   refine aN ?_
   obtain ⟨a1,rfl,s1⟩:=q1
   obtain ⟨a3,rfl,s3⟩:=q3
   refine TL.buildSlice rfl rfl rfl rfl rfl ?_
   intro b' wa hga hba hsa hsb hsc
   repeat (refine TL.nil ?_)
   refine aT rfl yG ⟨_,_,_,rfl,(bR (sz:=1) (m:=2) hba hsc (by decide)).mono (λ _ _=>trivial),⟨_,_,_,rfl,(s1.grow hga).mono (λ _ _=>trivial)⟩,⟨_,_,_,rfl,(s3.grow hga).mono (λ _ _=>trivial)⟩,trivial⟩
 ·intro w6 lo6 hi6 hg6 _ _
  iterate 7 (refine aG rfl rfl ?_;intro vq hvq;try (obtain rfl:=hvq))
  refine aN ?_
  obtain ⟨a6,c6,vs6,rfl,hs6,hp6⟩:=hvq
  have hup:jH 2 [cs.take (i*2),cs.drop (j*2)] 2=n-(j-i):=by
   simp only [jH,List.take_succ_cons,List.take_zero,List.map_cons,List.map_nil,List.sum_cons,List.sum_nil,List.length_take,List.length_drop]
   omega
  refine aL 152 ?_
  refine aI rfl (join_t _ a6 2 c6 vs6 [cs.take (i*2),cs.drop (j*2)] _ hs6 hp6 (by
   intro p hp u hu
   simp only [List.mem_cons,List.not_mem_nil,or_false] at hp
   rcases hp with rfl|rfl
   ·exact h1 u (List.mem_of_mem_take hu)
   ·exact h1 u (List.mem_of_mem_drop hu)) (by show jH _ _ 2≤_;omega)) rfl ?_
  rintro v w7 ⟨hown,hg7⟩
  rw [show ([cs.take (i*2),cs.drop (j*2)]:List (List Value)).length=2 from rfl,hup] at hown
  rw [show ([cs.take (i*2),cs.drop (j*2)]:List (List Value)).flatten=cs.take (i*2)++cs.drop (j*2) by simp] at hown
  repeat (first|(refine aD ?_;refine TL.pure rfl rfl ?_)|refine TL.nil ?_|refine aA ?_|refine bE ?_)
  exact cI rfl ⟨_,rfl,fI hown hg6.size,hg6.trans hg7⟩
end Go.Proofs.YtfpadnmdafiddaaGreatDoor
