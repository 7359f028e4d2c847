import Derived.Test.YtfpadnmdafiddaaGreatDoorMr
import Derived.Test.YtfpadnmdafiddaaGreatDoorMs
import Derived.Test.YtfpadnmdafiddaaGreatDoorMk
import Derived.Test.YtfpadnmdafiddaaGreatDoorMn
import Derived.Test.YtfpadnmdafiddaaGreatDoorMo
set_option linter.all false
set_option maxHeartbeats 16000000
set_option maxRecDepth 100000
namespace Go.Proofs.YtfpadnmdafiddaaGreatDoor
open Go Go.RowKit Go.V
def St.of (l:List (BitVec 64)):St:=⟨l.getD 0 0,l.getD 1 0,l.getD 2 0,l.getD 3 0,l.getD 4 0,l.getD 5 0,l.getD 6 0,l.getD 7 0⟩
theorem St.of_l {l:List (BitVec 64)} (h:l.length=8):(St.of l).l=l:=by
 match l,h with
 | [a,b,c,d,e,f,g,i],_=>rfl
theorem pieceB_len (s:St) (bs:List Nat):(pieceB s bs).length=8:=by
 unfold pieceB;rw [addL_len];rfl
def wordsB (s:St) (bs:Bs):Nat→St
 | 0=>s
 | k+1=>St.of (pieceB (wordsB s bs k) ((bs.drop (128*k)).take 128))
theorem wordsB_l (s:St) (bs:Bs) (k:Nat):(wordsB s bs (k+1)).l=pieceB (wordsB s bs k) ((bs.drop (128*k)).take 128):=St.of_l (pieceB_len _ _)
theorem padS_mod (l:Bs):(padS l).length=128*((padS l).length / 128):=by
 have:=length_padS l
 have hz:padZ l.length=(239-l.length%128)%128:=rfl
 omega
theorem padS_lt {l:Bs} (h:∀ b∈l,b<256):∀ b∈padS l,b<256:=by
 intro b hb
 simp only [padS,List.mem_append,List.mem_singleton,zs,List.mem_replicate,be8,List.mem_map] at hb
 rcases hb with (((hb|hb)|hb)|⟨i,_,hb⟩)|⟨i,_,hb⟩
 ·exact h b hb
 ·omega
 ·omega
 ·omega
 ·omega
def wholeS (s:St) (l:Bs):St:=wordsB s (padS l) ((padS l).length / 128)
theorem whole_c (F:Nat→Prop) (s:St) (a:Option Addr) (n c:Nat) (bss:List Bs) (w:World) (h:KysAt F w a n c bss) (hn:bss.flatten.length≤100000) (hb:∀ b∈bss.flatten,b<256) :
  Calls Tryz.prog 212 #[.agg (s.l.map wB).toArray,.slice a n c] w (Ret λ v w'=>v=.agg ((wholeS s bss.flatten).l.map wB).toArray∧Grow w w'):=by
 refine V.calls (args:=[_,_]) Tryz.func212 rfl Tryz.ntmps212 rfl rfl ?_
 repeat (first|refine T.seqR ?_|(refine aB ?_;refine TL.pure rfl rfl ?_)|refine TL.nil ?_|refine aA ?_|refine aJ ?_|refine aC ?_|(refine cD ?_;(refine TL.box rfl rfl rfl ?_;intro bk w' hg hbk hsz hsz'))|(refine bF ?_;(refine TL.alloc rfl rfl ?_;intro bk w' hg hbk hsz hsz')))
 rename_i b0 w0 g0 k0 s0 s0'
 have hg2:Grow w w':=by exact yG
 have hb0:Blk w' b0 295 (s.l.map wB):=Blk.grow hg k0
 have hsz2:=hg2.size
 have hbk':Blk w' bk 295 ((List.replicate 8 0#64).map wB):=hbk
 have hne:bk≠b0:=by omega
 have hbkl:=hbk.lt
 clear hbk
 refine aL 250 ?_
 refine aI rfl (padded_c F a n c bss _ (h.go (Carry.grow hg2)) hn) rfl ?_
 rintro v w2 ⟨hown,hg3⟩
 have hm:=padS_mod bss.flatten
 have hlt:=padS_lt hb
 have hlp:=length_padS bss.flatten
 have hz:padZ bss.flatten.length<128:=by unfold padZ;omega
 unfold wholeS
 generalize (padS bss.flatten).length / 128=m at *
 generalize padS bss.flatten=bs at *
 rw [hm] at hown
 obtain ⟨va,vc,rfl,hsv⟩:=bX hown
 obtain ⟨G,hG,hsG⟩:∃ G:Nat→Prop,(∀ k,G k→w'.heap.size≤k∧k<w2.heap.size)∧Sl G w2 1 va (128*m) vc (cX bs):=⟨_,λ k hk=>⟨hk.1.1,hk.2⟩,hsv.tight⟩
 refine aL 249 ?_
 refine aI rfl (chunk_c va _ vc _) rfl ?_
 rintro _ w3 ⟨b1,b2,rfl,h1,h2,hb1,hb2,hg4⟩
 repeat (refine TL.nil ?_)
 refine mK (T2.range (ps:=[9]) (lb:=[_,_]) rfl (Nat.zero_le _) rfl ?_)
 intro rc w4 hli hs4 hg5 hl4 hD4
 have h3:=hg3.size
 have h4:=hg4.size
 have hbb:=hb0.lt
 have hbl1:=hb1.lt
 have hbl2:=hb2.lt
 obtain ⟨D,hD⟩:∃ D,D=w3.heap.size:=⟨_,rfl⟩
 rw [← hD] at hl4 hD4 hs4 ⊢
 refine Calls.mono (chunks_c G (D+1) b1 b2 m va vc bs (λ k w'=>Blk w' b0 295 ((wordsB s bs k).l.map wB)∧Blk w' b1 30 [.slice va (128*m) vc]∧Blk w' b2 3 [.int .i64 128] ∧
   Sl G w' 1 va (128*m) vc (cX bs)∧w'.heap[D+1]? = some (.loop (rc .ready none))∧w'.heap[D]? = some (.deferred (some []))∧Grow w w'∧Blk w' bk 295 ((List.replicate 8 0#64).map wB)) hm (by omega) (λ k w' h=>⟨h.2.1,h.2.2.1,h.2.2.2.1⟩) ?_ ?_ _ ?_) ?_
 ·rintro k w5 w6 ⟨q1,q2,q3,q4,q5,q6,q7,q8⟩ hg
  exact ⟨q1.grow hg,q2.grow hg,q3.grow hg,q4.grow hg,(hg.block _ (Array.getElem?_eq_some_iff.1 q5).1).trans q5,(hg.block _ (Array.getElem?_eq_some_iff.1 q6).1).trans q6,q7.trans hg,q8.grow hg⟩
 ·rintro k w5 a' hk ⟨q1,q2,q3,q4,q5,q6,q7,q8⟩ hs'
  refine yld_of hli q5 rfl rfl λ I=>?_
  repeat (first|(refine aD ?_;refine TL.pure rfl rfl ?_)|refine TL.nil ?_|refine aC ?_)
  refine ⟨q5,λ w6 hu6 hl6=>?_⟩
  have q1':=q1.upd hu6 (by omega)
  have hs6:=hs'.upd hu6 (λ k hk=>by have:=hG k hk;omega)
  repeat (refine T.block ?_)
  apply T.any 4 [is (.agg ((wordsB s bs k).l.map wB).toArray),is (.slice a' 128 128),is (.pointer a'),is (.agg (cX ((bs.drop (128*k)).take 128)).toArray)]
  ·rfl
  ·repeat' (first|exact bW|refine bU ?_ ?_)
   iterate 2
    ·(refine aR rfl rfl rfl ?_);( intro wq _ _ hgq;(repeat (refine aG rfl rfl ?_;intro vq hvq;try (obtain rfl:=hvq)));(refine aN ?_))
     repeat (first|(refine aB ?_;refine TL.pure rfl rfl ?_)|(refine aY ?_;refine bK rfl yB (by exact rfl) rfl ?_)|refine TL.nil ?_)
     exact aT rfl yG rfl
   ·(refine aR rfl rfl rfl ?_);( intro wq _ _ hgq;(repeat (refine aG rfl rfl ?_;intro vq hvq;try (obtain rfl:=hvq)));(refine aN ?_))
    refine TL.arrayAt rfl (Nat.le_refl _) rfl ?_
    repeat (refine TL.nil ?_)
    exact aT rfl yG rfl
   ·(refine aR rfl rfl rfl ?_);( intro wq _ _ hgq;(repeat (refine aG rfl rfl ?_;intro vq hvq;try (obtain rfl:=hvq)));(refine aN ?_))
    refine TL.loadAll rfl (hs6.grow yG) rfl rfl ?_
    repeat (refine TL.nil ?_)
    exact aT rfl yG rfl
  ·intro w7 lo7 hi7 hg7 _ _
   ((repeat (refine aG rfl rfl ?_;intro vq hvq;try (obtain rfl:=hvq)));(refine aN ?_))
   refine aL 251 ?_
   refine aI rfl (piece_c (wordsB s bs k) _ ?_ ?_ _) rfl ?_
   ·rw [List.length_take,List.length_drop];omega
   ·exact λ b hb=>hlt b (List.mem_of_mem_drop (List.mem_of_mem_take hb))
   rintro _ w8 ⟨rfl,hg8⟩
   have q1'':=q1'.grow (hg7.trans hg8)
   rw [← wordsB_l]
   repeat (first|refine TL.nil ?_|refine aS ?_|(refine aP ?_;(refine bA rfl rfl yB (by exact rfl) (by exact rfl) (by exact rfl) ?_;intro w' hu hbk hsz)))
   have z7:=hg7.size
   have z8:=hg8.size
   have zu:=hu6.size
   rename_i wf hu hbk _
   refine ⟨?_,λ wz huz hlz=>?_⟩
   ·rw [hu.block _ (by omega),hg8.block _ (by have:=(Array.getElem?_eq_some_iff.1 hl6).1;omega),hg7.block _ (Array.getElem?_eq_some_iff.1 hl6).1]
    exact hl6
   ·have keep:∀ x,x≠b0→x≠D+1→x<w5.heap.size→wz.heap[x]? = w5.heap[x]?:=λ x hx hx1 hx2 =>
     (huz.block x hx1).trans ((hu.block x hx).trans ((hg8.block x (by omega)).trans ((hg7.block x (by omega)).trans (hu6.block x hx1))))
    have hsz5:w5.heap.size≤wz.heap.size:=by have:=hu.size;have:=huz.size;omega
    have hgw:Grow w wz:=aX huz (by have:=q7.size;omega) (aX hu (by omega) ((aX hu6 (by omega) q7).trans (hg7.trans hg8)))
    refine ⟨rfl,hbk.upd huz (by omega),?_,?_,q4.keep (λ x hx hx2=>keep x (by have:=hG x hx;omega) (by have:=hG x hx;omega) hx2) hsz5,hlz,?_,hgw,?_⟩
    ·have hlx:=q2.lt;unfold Blk at q2 ⊢;rw [keep b1 (by omega) (by omega) hlx];exact q2
    ·have hlx:=q3.lt;unfold Blk at q3 ⊢;rw [keep b2 (by omega) (by omega) hlx];exact q3
    ·rw [keep D (by omega) (by omega) (Array.getElem?_eq_some_iff.1 q6).1];exact q6
    ·have hlx:=q8.lt;unfold Blk at q8 ⊢;rw [keep bk hne (by omega) hlx];exact q8
 ·have hg24:Grow w2 w4:=hg4.trans hg5
  exact ⟨(hb0.grow (hg3.trans hg24)),hb1.grow hg5,hb2.grow hg5,hsG.grow hg24,hl4,hD4,hg2.trans (hg3.trans hg24),hbk'.grow (hg3.trans hg24)⟩
 ·rintro _ w5 ⟨v,rfl,q1,q2,q3,q4,q5,q6,q7,q8⟩
  refine ⟨v,rfl,q6,.inl ⟨q5,λ I w6 hu6=>?_⟩⟩
  have q1':=q1.upd hu6 (by omega)
  have q8':=q8.upd hu6 (by omega)
  repeat (first|(refine aY ?_;refine bK rfl yB (by exact rfl) rfl ?_)|refine TL.nil ?_|refine aA ?_|refine aJ ?_|refine aC ?_|(refine aP ?_;(refine bA rfl rfl yB (by exact rfl) (by exact rfl) (by exact rfl) ?_;intro w' hu hbk hsz))|refine bE ?_)
  refine ⟨?_,λ wz huz=>?_⟩
  ·rw [hu.block _ (by omega),hu6.block _ (by omega)];exact q6
  ·exact retC rfl (bV (hbk.upd huz (by omega)) rfl) ⟨_,rfl,rfl,aX huz (by have:=q7.size;have:=hg2.size;omega) (aX hu (by omega) (aX hu6 (by omega) q7))⟩
end Go.Proofs.YtfpadnmdafiddaaGreatDoor
namespace Go.V
open Go Go.RowKit
section
variable [Rn]
variable {P:Program} {n:Nat} {e:dQ} {w:World} {Q:dS} {ops:Array Oper} {rest:List Oper} {d:Nat} {ty:TypeId} {pos:String} {aft:Array Edge}
theorem TL.convSl {t elem size bytes b m c:Nat} {x:Operand} {t0:TypeId} {cs:List Value} [ht:SliceTy P t elem size bytes] [h8:IntTy P elem .u8] (hx:val e x=some (.slice (some ⟨b,0,none⟩) m c)) (hb:Blk w b t0 cs) (hm:cs.length=m) (hc:m≤c) (hc2:c≤maxLen) (hd:Nat.blt d n=true)
  (k:∀ w',Upd b w w'→Sl (λ k=>k=b) w' 1 (some ⟨b,0,none⟩) m c cs→TL P n ops rest ((d,.slice (some ⟨b,0,none⟩) m c)::e) w' Q):TL P n ops (⟨some d,.convert t t x,ty,pos,aft,none⟩::rest) e w Q:=by
 have hlt:=hb.lt
 have hw0:w.heap[b]? = some (.cells cs.toArray t0 (0,0)):=by unfold Blk at hb;exact hb
 have hs:w.shape? b=some (t0,cs.toArray.size):=by simp [World.shape?,hw0]
 refine TL.run (w':=w.freeze ⟨b,cs.toArray.size,none⟩ 1) (λ r hr=>?_) hd (k _ ⟨rfl,rfl,rfl,by simp [World.freeze],λ k hk=>?_⟩ ⟨by omega,hc,hc2,(λ h=>by cases h),λ _=>⟨rfl,rfl,by simpa [World.freeze] using hlt,λ j v hj=>?_⟩⟩)
 ·have m1:(markStringish ⟨b,0,none⟩).run P w=.ok () (w.freeze ⟨b,cs.toArray.size,none⟩ 1):=by simp [markStringish,shape,freeze,Sem.run,hs]
  simp [execOp,hr.eval hx,convert,underlying,ht.und,h8.und,m1]
 ·simp only [World.freeze,Nat.one_ne_zero,if_false,Array.getElem?_modify,if_neg (Ne.symm hk)]
 ·have hw':(w.freeze ⟨b,cs.toArray.size,none⟩ 1).heap[b]? = some (.cells cs.toArray t0 (if ((0:Nat),(0:Nat)).1==((0:Nat),(0:Nat)).2 then (cs.toArray.size,cs.toArray.size+1) else (min 0 cs.toArray.size,max 0 (cs.toArray.size+1)))):=by
   simp only [World.freeze,Nat.one_ne_zero,if_false,Array.getElem?_modify,if_true,hw0,Option.map_some]
  simp only [World.cell?,hw',Nat.zero_add]
  simpa using hj
end
end Go.V
namespace Go.Proofs.YtfpadnmdafiddaaGreatDoor
open Go Go.RowKit Go.V
def startL:List (BitVec 64):=[7640891576956012808#64,13503953896175478587#64,4354685564936845355#64,11912009170470909681#64,5840696475078001361#64,11170449401992604703#64,2270897969802886507#64,6620516959819538809#64]
def xorK:BitVec 64:=11936128518282651045#64
def xorL:Nat→List (BitVec 64)
 | 0=>startL
 | q+1=>(xorL q).set q ((xorL q).getD q 0#64 ^^^ xorK)
theorem xorL_len (q:Nat):(xorL q).length=8:=by induction q with|zero=>rfl|succ q ih=>simp [xorL,ih]
def shaName:Bs:=[83,72,65,45,53,49,50,47,50,53,54]
def shortS:St:=wholeS (St.of (xorL 8)) shaName
theorem start_c (w:World):Calls Tryz.prog 252 #[] w (Ret λ v w'=>v=.agg (startL.map wB).toArray∧Grow w w'):=by
 refine V.calls (args:=[]) Tryz.func252 rfl Tryz.ntmps252 rfl rfl ?_
 repeat (first|refine TL.nil ?_|refine aA ?_|refine aJ ?_|refine aC ?_|(refine aP ?_;(refine bA rfl rfl yB (by exact rfl) (by exact rfl) (by exact rfl) ?_;intro w' hu hbk hsz))|(refine bF ?_;(refine TL.alloc rfl rfl ?_;intro bk w' hg hbk hsz hsz'))|refine mI rfl rfl rfl ?_|refine bE ?_)
 exact retC rfl (bV (by assumption) rfl) ⟨_,rfl,rfl,yG⟩
theorem short_c (w:World):Calls Tryz.prog 213 #[] w (Ret λ v w'=>v=.agg (shortS.l.map wB).toArray∧Grow w w'):=by
 refine V.calls (args:=[]) Tryz.func213 rfl Tryz.ntmps213 rfl rfl ?_
 repeat (first|refine TL.nil ?_|refine aA ?_|refine aJ ?_|refine aC ?_|(refine bF ?_;(refine TL.alloc rfl rfl ?_;intro bk w' hg hbk hsz hsz')))
 refine aL 252 ?_
 refine aI (vs:=[]) rfl (start_c _) rfl ?_
 rintro _ w2 ⟨rfl,hg2⟩
 have hbr:Blk w2 bk 295 ((List.replicate 8 0#64).map wB):=Blk.grow hg2 hbk
 have hgw:Grow w w2:=hg.trans hg2
 have hz1:=hg2.size
 have hz2:w.heap.size=bk:=hsz
 have hz3:=hsz'
 clear hg hbk hsz hsz' hg2
 repeat (first|(refine aB ?_;refine TL.pure rfl rfl ?_)|refine TL.nil ?_|refine aA ?_|refine aJ ?_|refine aC ?_|refine T.block ?_|(refine aP ?_;(refine bA rfl rfl yB (by exact rfl) (by exact rfl) (by exact rfl) ?_;intro w' hu hbk hsz))|(refine bF ?_;(refine TL.alloc rfl rfl ?_;intro bk w' hg hbk hsz hsz')))
 rename_i b0 wa wb hbz hsz0
 have hbr2:Blk w' b0 295 ((List.replicate 8 0#64).map wB):=by exact yB
 have hgw2:Grow w w':=by exact yG
 have hne:b0≠bk:=by omega
 have hle1:w.heap.size≤b0:=by omega
 have hle:w.heap.size≤bk:=by omega
 clear hbr hgw hz1 hz2 hz3 hu hsz hg hsz' hbz hsz0
 refine cU (S:=Nat) (λ i=>[(4,.int .i64 (i:Int)),(1,.pointer (some ⟨bk,0,none⟩)),(0,.pointer (some ⟨b0,0,none⟩))]) (λ i w3=>i≤8∧Blk w3 bk 295 ((xorL i).map wB)∧Blk w3 b0 295 ((List.replicate 8 0#64).map wB)∧Grow w w3) (λ i=>8-i) 0 ⟨rfl,rfl,rfl,trivial⟩ ⟨by omega,hbk,hbr2,hgw2⟩ ?_
 clear hbk hbr2 hgw2
 rintro i w3 ⟨hi,hbk,hbr,hg⟩
 have hln:=xorL_len i
 by_cases hlt:i<8
 ·repeat (first|(refine aY ?_;refine aK rfl (Blk.cell hbk (wcell (by omega))) rfl ?_)|refine TL.xorB6 (b:=xorK) rfl rfl rfl ?_|(refine aB ?_;refine TL.pure rfl rfl ?_)|(refine aD ?_;refine TL.pure rfl rfl ?_)|(refine bC ?_;refine eY rfl rfl (by omega) rfl ?_)|refine TL.nil ?_|refine aA ?_|refine aJ ?_|refine aC ?_|refine T.block ?_|(refine aH ?_;refine aZ rfl yD rfl ?_)|refine aM rfl ?_|refine aW ?_)
  refine bQ rfl rfl hbk rfl (by rw [List.length_map,hln];exact Nat.ble_eq_true_of_le (by omega)) (map_set _ _ _) ?_
  intro w7 hu7 hb7 hs7
  repeat (first|(refine aB ?_;refine TL.pure rfl rfl ?_)|(refine bL ?_;refine bT rfl rfl (by omega) rfl ?_)|refine TL.nil ?_|refine aA ?_|refine aC ?_|refine aS ?_)
  exact bG (i+1) ⟨rfl,rfl,rfl,trivial⟩ ⟨hlt,hb7,hbr.upd hu7 hne,aX hu7 hle hg⟩ (by omega)
 obtain rfl:i=8:=by omega
 repeat (first|(refine aY ?_;refine bK rfl hbk (by rw [List.length_map,hln];rfl) rfl ?_)|refine TL.nil ?_|refine aA ?_|refine aJ ?_|refine aC ?_|(refine aH ?_;refine aQ rfl yD rfl ?_)|refine aE rfl ?_|refine cV ?_|refine bN ?_|refine bP ?_|refine bO ?_)
 refine TL.buildSlice rfl rfl rfl rfl rfl ?_
 intro b1 w4 hg4 hb1 q1 q2 q3
 have hb1':Blk w4 b1 5 (cX shaName):=hb1
 refine TL.convSl rfl hb1' rfl (Nat.le_refl _) (by decide) rfl ?_
 intro w5 hu5 hs5
 refine TL.buildSlice rfl rfl rfl rfl rfl ?_
 intro b2 w6 hg6 hb2 r1 r2 r3
 have hz3:=hg.size
 have hbrl:=hbr.lt
 have hle0:w.heap.size≤b0:=hle1
 have hz4:=hg4.size
 have hz5:=hu5.size
 have hz6:=hg6.size
 have hs2:Sl (λ k=>k=b2∨k=b1) w6 1 (some ⟨b2,0,none⟩) 1 1 [.slice (some ⟨b1,0,none⟩) 11 11]:=(bR (sz:=1) (m:=1) hb2 r3 (by decide)).mono (λ k hk=>.inl hk)
 have hky:KysAt (λ k=>k=b2∨k=b1) w6 (some ⟨b2,0,none⟩) 1 1 [shaName]:=⟨_,hs2,⟨_,_,_,rfl,(hs5.grow hg6).mono (λ k hk=>.inr hk)⟩,trivial⟩
 refine aL 212 ?_
 have hsl:(St.of (xorL 8)).l=xorL 8:=St.of_l (xorL_len 8)
 rw [← hsl]
 refine aI rfl (whole_c _ (St.of (xorL 8)) _ 1 1 [shaName] _ hky (by decide) (by decide)) rfl ?_
 rintro _ w7 ⟨rfl,hg7⟩
 rw [show wholeS (St.of (xorL 8)) [shaName].flatten=shortS from rfl]
 have hz7:=hg7.size
 have hbr7:Blk w7 b0 295 ((List.replicate 8 0#64).map wB):=((((hbr.grow hg4).upd hu5 (by omega)).grow hg6).grow hg7)
 have hg8:Grow w w7:=(((aX hu5 (by omega) (hg.trans hg4)).trans hg6).trans hg7)
 repeat (first|(refine aP ?_;refine bA rfl rfl hbr7 rfl rfl (by simp [Value.oneCell']) ?_;intro w' hu hbk hsz)|refine TL.nil ?_|refine aA ?_|refine bE ?_)
 exact retC rfl (bV hbk rfl) ⟨_,rfl,rfl,aX hu (by omega) hg8⟩
end Go.Proofs.YtfpadnmdafiddaaGreatDoor
namespace Go.Proofs.YtfpadnmdafiddaaGreatDoor
open Go Go.RowKit Go.V
def sumB (s:St) (i:Nat):Nat:=(s.l.getD (i / 8) 0#64).toNat / 2^(56-8*(i%8))%256
def sumS (s:St):Bs:=(List.range 64).map (sumB s)
def sumL (s:St):Nat→Bs
 | 0=>zs 64
 | i+1=>(sumL s i).set i (sumB s i)
theorem sumL_len (s:St) (i:Nat):(sumL s i).length=64:=by induction i with|zero=>rfl|succ i ih=>simp [sumL,ih]
theorem sumL_at (s:St):∀ (i:Nat),i≤64→∀ j,j<i→(sumL s i)[j]? = some (sumB s j)
 | 0,_,j,h=>by omega
 | i+1,hi,j,h=>by
  simp only [sumL]
  have hl:=sumL_len s i
  by_cases hj:j=i
  ·subst hj;rw [List.getElem?_set_self (by omega)]
  ·rw [List.getElem?_set_ne (by omega)];exact sumL_at s i (by omega) j (by omega)
theorem sumL_end (s:St):sumL s 64=sumS s:=by
 apply List.ext_getElem?
 intro j
 by_cases hj:j<64
 ·rw [sumL_at s 64 (Nat.le_refl _) j hj];simp [sumS,hj]
 ·rw [List.getElem?_eq_none (by rw [sumL_len];omega),List.getElem?_eq_none (by simp [sumS];omega)]
theorem length_sumS (s:St):(sumS s).length=64:=by simp [sumS]
def shaB (l:Bs):Bs:=(sumS (wholeS shortS l)).take 32
theorem length_shaB (l:Bs):(shaB l).length=32:=by simp [shaB,length_sumS]
theorem bys_set (l:Bs) (i x:Nat):(cX l).set i (.int .u8 (x:Int))=cX (l.set i x):=by simp [cX,List.map_set]
theorem zero_64:(Tryz.prog.info? 238).bind (·.zero)=some (.agg (cX (zs 64)).toArray):=by kernel_rfl
theorem sum_c (s:St) (w:World):Calls Tryz.prog 211 #[.agg (s.l.map wB).toArray] w (Ret λ v w'=>v=.agg (cX (sumS s)).toArray∧Grow w w'):=by
 refine V.calls (args:=[_]) Tryz.func211 rfl Tryz.ntmps211 rfl rfl ?_
 repeat (first|(refine bF ?_;refine iG 64 zero_64 rfl ?_;intro bk w' hg hbk hsz hsz')|(refine aB ?_;refine TL.pure rfl rfl ?_)|refine TL.nil ?_|refine aA ?_|refine aJ ?_|refine aC ?_|refine T.block ?_|(refine cD ?_;(refine dP rfl rfl ?_;intro bk w' hg hbk hsz hsz')))
 rename_i b1 w1 hg1 hb1 q1 q1' b2 w2 hg2 hb2 q2 q2'
 have hb1':Blk w' b1 295 (s.l.map wB):=by exact yB
 have hb2':Blk w' b2 238 (cX (zs 64)):=by exact yB
 have hgw:Grow w w':=by exact yG
 have hn:b1≠bk∧b2≠bk∧w.heap.size≤bk∧w.heap.size≤b2:=by omega
 clear hg1 hb1 q1 q1' hg2 hb2 q2 q2' hg hsz hsz'
 refine cU (S:=Nat) (λ i=>[(5,.int .i64 (i:Int)),(3,.pointer (some ⟨bk,0,none⟩)),(2,.pointer (some ⟨b2,0,none⟩)),(1,.pointer (some ⟨b1,0,none⟩))]) (λ i w3=>i≤64∧Blk w3 bk 238 (cX (sumL s i))∧Blk w3 b1 295 (s.l.map wB)∧Blk w3 b2 238 (cX (zs 64))∧Grow w w3) (λ i=>64-i) 0 ⟨rfl,rfl,rfl,rfl,trivial⟩ ⟨by omega,hbk,hb1',hb2',hgw⟩ ?_
 clear hbk hb1' hb2' hgw
 rintro i w3 ⟨hi,hbk,hb1,hb2,hg⟩
 have hln:=sumL_len s i
 by_cases hlt:i<64
 ·have hsl:s.l.length=8:=rfl
  repeat (first|(refine aY ?_;refine aK rfl (Blk.cell hb1 (wcell (by omega))) rfl ?_)|(refine bC ?_;refine eY (j:=i / 8) rfl rfl (by omega) rfl ?_)|(refine hE ?_;refine hY (a:=8) rfl rfl (by omega) rfl ?_)|(refine cN ?_;refine dN (a:=56) (b:=8*(i%8)) rfl rfl (by omega) (by omega) rfl ?_)|(refine fZ ?_;refine jL rfl rfl (by show 56-8*(i%8)≤64;omega) rfl ?_)|(refine cR ?_;refine mY rfl (M:=256) rfl rfl ?_)|(refine aB ?_;refine TL.pure rfl rfl ?_)|(refine aD ?_;refine TL.pure rfl rfl ?_)|(refine bC ?_;refine eY rfl rfl (by omega) rfl ?_)|refine TL.nil ?_|refine aA ?_|refine aJ ?_|refine aC ?_|refine T.block ?_|(refine TL.isRem ?_;refine TL.remU rfl rfl (by omega) rfl ?_)|(refine kB ?_;refine mF rfl rfl (by omega) (by omega) rfl ?_)|(refine aH ?_;refine aZ rfl yD rfl ?_)|refine aM rfl ?_|refine aW ?_)
  have hget:(s.l.getD (i / 8) 0#64).toNat / 2^(56-8*(i%8))%256=sumB s i:=rfl
  rw [hget]
  refine bQ rfl rfl hbk rfl (by rw [dA,hln];exact Nat.ble_eq_true_of_le (by omega)) (bys_set _ _ _) ?_
  intro w7 hu7 hb7 hs7
  repeat (first|(refine aB ?_;refine TL.pure rfl rfl ?_)|(refine bL ?_;refine bT rfl rfl (by omega) rfl ?_)|refine TL.nil ?_|refine aA ?_|refine aC ?_|refine aS ?_)
  exact bG (i+1) ⟨rfl,rfl,rfl,rfl,trivial⟩ ⟨hlt,hb7,hb1.upd hu7 hn.1,hb2.upd hu7 hn.2.1,aX hu7 hn.2.2.1 hg⟩ (by omega)
 obtain rfl:i=64:=by omega
 rw [sumL_end] at hbk
 have hl:=length_sumS s
 generalize sumS s=l at *
 clear hln
 obtain ⟨z,hz⟩:∃ z,z=zs 64:=⟨_,rfl⟩
 have hzl:z.length=64:=by rw [hz];exact dZ _
 rw [← hz] at hb2
 clear hz
 repeat (first|refine TL.loadBy rfl hbk hl rfl ?_|(refine aP ?_;refine iZ rfl rfl hb2 hzl hl ?_;intro w' hu hb2' hsz)|refine TL.nil ?_|refine aA ?_|refine aJ ?_|refine aC ?_|(refine aH ?_;refine aQ rfl yD rfl ?_)|refine aE rfl ?_|refine bE ?_|refine cV ?_|refine bN ?_|refine bP ?_|refine bO ?_)
 exact retC rfl (bV hb2' (by rw [dA,hl];rfl)) ⟨_,rfl,rfl,aX hu hn.2.2.2 hg⟩
theorem sha_c (F:Nat→Prop) (a:Option Addr) (n c:Nat) (bss:List Bs) (w:World) (h:KysAt F w a n c bss) (hn:bss.flatten.length≤100000) (hb:∀ b∈bss.flatten,b<256) :
  Calls Tryz.prog 169 #[.slice a n c] w (Ret λ v w'=>v=.agg (cX (shaB bss.flatten)).toArray∧Grow w w'):=by
 refine V.calls (args:=[_]) Tryz.func169 rfl Tryz.ntmps169 rfl rfl ?_
 repeat (first|(refine bF ?_;refine iG 32 zero_dig rfl ?_;intro bk w' hg hbk hsz hsz')|refine TL.nil ?_|refine aA ?_|refine aJ ?_|refine aC ?_)
 refine aL 213 ?_
 refine aI (vs:=[]) rfl (short_c _) rfl ?_
 rintro _ w2 ⟨rfl,hg2⟩
 repeat ((refine aB ?_;refine TL.pure rfl rfl ?_))
 refine aL 212 ?_
 refine aI rfl (whole_c F shortS a n c bss _ (h.go (Carry.grow (hg.trans hg2))) hn hb) rfl ?_
 rintro _ w3 ⟨rfl,hg3⟩
 refine aL 211 ?_
 refine aI rfl (sum_c _ _) rfl ?_
 rintro _ w4 ⟨rfl,hg4⟩
 unfold shaB
 have hl:=length_sumS (wholeS shortS bss.flatten)
 generalize sumS (wholeS shortS bss.flatten)=l at *
 have hb4:Blk w4 bk 243 (cX (zs 32)):=((hbk.grow hg2).grow hg3).grow hg4
 have hgw:Grow w w4:=((hg.trans hg2).trans hg3).trans hg4
 have hle:w.heap.size≤bk:=by omega
 have hbl:=hb4.lt
 clear hg hbk hsz hsz' hg2 hg3 hg4
 repeat (first|(refine bF ?_;refine iG 64 zero_64 rfl ?_;intro b2 w5 hg5 hb5 q1 q2)|(refine aP ?_;refine iZ rfl rfl hb5 (dZ _) hl ?_;intro w6 hu6 hb6 q3)|refine TL.nil ?_|refine aA ?_|refine aJ ?_|refine aC ?_|(refine eX ?_;refine eP rfl (cA _) (jU rfl) (by omega) (by omega) (by omega) rfl rfl ?_))
 have hb46:Blk w6 bk 243 (cX (zs 32)):=(hb4.grow hg5).upd hu6 (by omega)
 have hsl:Sl (λ k=>k=b2) w6 1 (some ⟨b2,0,none⟩) 32 64 (cX ((l.drop 0).take 32)):=lD (o:=0) (m:=32) (c:=64) hb6 (by omega) (by omega) (by decide)
 rw [List.drop_zero] at hsl
 refine TL.arrayAt (a:=some ⟨b2,0,none⟩) (n:=11) rfl (Nat.le_refl 32) rfl ?_
 refine TL.loadAll rfl hsl rfl rfl ?_
 have hl2:(l.take 32).length=32:=by rw [List.length_take,hl];rfl
 generalize l.take 32=l2 at *
 refine iZ rfl rfl hb46 (dZ _) hl2 ?_
 intro w7 hu7 hb7 _
 repeat (first|refine TL.nil ?_|refine aA ?_|refine bE ?_)
 exact retC rfl (bV hb7 (by rw [dA,hl2];rfl)) ⟨_,rfl,rfl,aX hu7 hle (aX hu6 (by omega) (hgw.trans hg5))⟩
end Go.Proofs.YtfpadnmdafiddaaGreatDoor
namespace Go.Proofs.YtfpadnmdafiddaaGreatDoor
open Go Go.RowKit Go.V
def eF (b:Bs):Bs:=b++zs (500-b.length)
def lX (n:Nat) (b:Bs):Bs:=(shaB (fW n++eF b)).take 12++eF b
theorem lY (b:Bs) (h:b.length≤500):(eF b).length=500:=by simp [eF,dZ];omega
theorem length_pageB (n:Nat) (b:Bs) (h:b.length≤500):(lX n b).length=512:=by
 unfold lX;rw [List.length_append,List.length_take,length_shaB,lY b h];rfl
theorem length_word4 (n:Nat):(fW n).length=4:=rfl
theorem word4_lt (n:Nat):∀ b∈fW n,b<256:=by
 intro b hb
 simp only [fW,List.mem_cons,List.not_mem_nil,or_false] at hb
 omega
theorem body_lt {b:Bs} (h:∀ x∈b,x<256):∀ x∈eF b,x<256:=by
 intro x hx
 simp only [eF,zs,List.mem_append,List.mem_replicate] at hx
 rcases hx with hx|hx
 ·exact h x hx
 ·omega
def kyF {B:Nat} (m:Nat) (l:List Bs):SFact B:={ G:=λ v _ _ w=>∃ a c,v=.slice a m c∧KysAt (λ _=>True) w a m c l,st:=λ v _ _ w w' g h=>by obtain ⟨a,c,h1,h2⟩:=h;exact ⟨a,c,h1,h2.go (Carry.grow g)⟩ }
theorem page_c (F:Nat→Prop) (n:Nat) (hn:n<4294967296) (a:Option Addr) (m c:Nat) (b:Bs) (w:World) (hs:Sl F w 1 a m c (cX b)) (hm:m≤500) (hb:∀ x∈b,x<256) :
  Calls Tryz.prog 123 #[.int .i64 (n:Int),.slice a m c] w (Ret λ v w'=>v=.agg (cX (lX n b)).toArray∧Grow w w'):=by
 have hlb:=iD hs
 refine V.calls (args:=[_,_]) Tryz.func123 rfl Tryz.ntmps123 rfl rfl ?_
 repeat (first|(refine bF ?_;refine iG 512 zero_page rfl ?_;intro bk w' hg hbk hsz hsz')|(refine aB ?_;refine TL.pure rfl rfl ?_)|refine TL.nil ?_|refine aA ?_|refine aJ ?_|refine aC ?_|(refine eX ?_;refine eP rfl (jU rfl) (cA _) (by omega) (by omega) (by omega) rfl rfl ?_))
 rename_i b4 w1 hg1 hb4 q1 q2
 have hsz1:=hg.size
 refine TL.copyB (b:=bk) (o:=12) (m:=500) (c:=500) rfl rfl hbk (hs.grow (hg1.trans hg)) (eD b) (by rw [dA,dZ];omega) rfl ?_
 intro w2 hu2 hb2 hz2
 have hb0:jC (cX (zs 512)) 12 ((cX b).take (min m 500))=cX (zs 12++eF b):=by
  rw [List.take_of_length_le (by rw [dA];omega),putAt_eq _ _ _ (by rw [dA,dA,dZ];omega),dA]
  unfold eF cX zs
  rw [← List.append_assoc]
  simp only [List.map_append,List.map_replicate,List.take_replicate,List.drop_replicate]
  rw [show min 12 512=12 from rfl,show 512-(12+b.length)=500-b.length by omega]
 rw [hb0] at hb2
 have hb42:Blk w2 b4 197 (cX (zs 512)):=(hb4.grow hg).upd hu2 (by omega)
 have hgw:Grow w w2:=aX hu2 (by omega) (hg1.trans hg)
 have hne:b4≠bk∧w.heap.size≤bk∧w.heap.size≤b4:=by omega
 have hl5:=lY b (by omega)
 have hlt5:=body_lt hb
 have hpg:lX n b=(shaB (fW n++eF b)).take 12++eF b:=rfl
 rw [hpg]
 generalize eF b=B at *
 clear hbk hb4 hg1 hg q1 q2 hsz hsz' hsz1 hu2 hz2 hb0 hpg
 repeat (first|refine TL.nil ?_|refine aA ?_|refine aJ ?_)
 apply T.any 7 [is (.int .i64 (n:Int)),is (.int .u64 (n:Int)),own w2.heap.size 5 1 4 (cX (fW n)),is (.slice (some ⟨bk,12,none⟩) 500 500),kyF 2 [fW n,B],is (.agg (cX (shaB (fW n++B))).toArray),newB 243 (cX (zs 32))]
 ·rfl
 ·repeat' (first|exact bW|refine bU ?_ ?_)
  ·(refine aR rfl rfl rfl ?_);( intro wq _ _ hgq;(repeat (refine aG rfl rfl ?_;intro vq hvq;try (obtain rfl:=hvq)));(refine aN ?_))
   repeat (first|(refine aB ?_;refine TL.pure rfl rfl ?_)|refine TL.nil ?_)
   exact aT rfl yG rfl
  ·(refine aR rfl rfl rfl ?_);( intro wq _ _ hgq;(repeat (refine aG rfl rfl ?_;intro vq hvq;try (obtain rfl:=hvq)));(refine aN ?_))
   repeat (first|refine TL.nil ?_|(refine cR ?_;refine eQ rfl rfl (by omega) rfl ?_))
   exact aT rfl yG rfl
  ·(refine aR rfl rfl rfl ?_);( intro wq _ _ hgq;(repeat (refine aG rfl rfl ?_;intro vq hvq;try (obtain rfl:=hvq)));(refine aN ?_))
   refine aL 170 ?_
   refine aI rfl (word_c n (by omega) _) rfl ?_
   rintro v w4 ⟨hown,hg4⟩
   repeat (refine TL.nil ?_)
   exact aT rfl yG (fI hown hgq.size)
  ·(refine aR rfl rfl rfl ?_);( intro wq _ _ hgq;(repeat (refine aG rfl rfl ?_;intro vq hvq;try (obtain rfl:=hvq)));(refine aN ?_))
   repeat (first|refine TL.nil ?_|(refine eX ?_;refine eP rfl (jU rfl) (cA _) (by omega) (by omega) (by omega) rfl rfl ?_))
   exact aT rfl yG rfl
  ·(refine aR rfl rfl rfl ?_);( intro wq _ _ hgq;(repeat (refine aG rfl rfl ?_;intro vq hvq;try (obtain rfl:=hvq)));(refine aN ?_))
   obtain ⟨a1,c1,rfl,hs1⟩:=bX hvq
   have hbq:=hb2.grow hgq
   have hs5:Sl (λ _=>True) _ 1 (some ⟨bk,12,none⟩) 500 500 (cX (((zs 12++B).drop 12).take 500)):=(lD (o:=12) (m:=500) (c:=500) hbq (by rw [List.length_append,dZ,hl5];omega) (Nat.le_refl _) (by decide)).mono (λ _ _=>trivial)
   rw [List.drop_left' (dZ 12),List.take_of_length_le (by omega)] at hs5
   refine TL.buildSlice rfl rfl rfl rfl rfl ?_
   intro b3 w4 hg4 hb3 r1 r2 r3
   repeat (refine TL.nil ?_)
   have hsl:Sl (λ _=>True) w4 1 (some ⟨b3,0,none⟩) 2 2 [.slice a1 4 c1,.slice (some ⟨bk,12,none⟩) 500 500]:=(bR (sz:=1) (m:=2) hb3 r3 (by decide)).mono (λ _ _=>trivial)
   exact aT rfl yG ⟨_,_,rfl,⟨_,hsl,⟨_,_,_,rfl,(hs1.grow hg4).mono (λ _ _=>trivial)⟩,⟨_,_,_,rfl,hs5.grow hg4⟩,trivial⟩⟩
  ·refine aR rfl rfl rfl ?_
   intro wq _ _ hgq
   refine aG rfl rfl ?_
   intro v4 h4
   refine aG rfl rfl ?_
   intro v2 h2
   refine aN ?_
   obtain ⟨a4,c4,rfl,h4⟩:=h4
   refine aL 169 ?_
   refine aI rfl (sha_c _ a4 2 c4 [fW n,B] _ h4 (by simp [length_word4,hl5]) (by
    intro x hx
    simp only [List.flatten_cons,List.flatten_nil,List.append_nil,List.mem_append] at hx
    rcases hx with hx|hx
    ·exact word4_lt n x hx
    ·exact hlt5 x hx)) rfl ?_
   rintro _ w4 ⟨rfl,hg4⟩
   rw [show [fW n,B].flatten=fW n++B by simp]
   repeat (refine TL.nil ?_)
   exact aT rfl yG rfl
  ·(refine aR rfl rfl rfl ?_);( intro wq _ _ hgq;(repeat (refine aG rfl rfl ?_;intro vq hvq;try (obtain rfl:=hvq)));(refine aN ?_))
   refine iG 32 zero_dig rfl ?_
   intro b5 w4 hg4 hb5 q1 q2
   repeat (refine TL.nil ?_)
   exact aT rfl yG ⟨b5,rfl,by omega,by omega,hb5⟩
 ·intro w6 lo6 hi6 hg6 _ _
  iterate 7 (refine aG rfl rfl ?_;intro vq hvq;try (obtain rfl:=hvq))
  refine aN ?_
  obtain ⟨b5,rfl,h51,h52,hb5⟩:=hvq
  have hD:=length_shaB (fW n++B)
  generalize shaB (fW n++B)=D at *
  have hb2':=hb2.grow hg6
  have hb4':=hb42.grow hg6
  have hgw':=hgw.trans hg6
  have hl2:=hb2.lt
  have hl4:=hb42.lt
  have hspan:=‹∀ (i:Nat),i<7→w2.heap.size≤lo6 i∧lo6 i≤hi6 i∧hi6 i≤w6.heap.size› 6 (by omega)
  have h51':lo6 6≤b5:=h51
  have hb5n:bk≠b5∧b4≠b5∧w.heap.size≤b5:=by have:=hgw.size;omega
  repeat (first|(refine aP ?_;refine iZ rfl rfl hb5 (dZ _) hD ?_;intro w7 hu7 hb7 _)|refine TL.nil ?_|refine aA ?_|refine aJ ?_)
  have hb27:=hb2'.upd hu7 hb5n.1
  have hb47:=hb4'.upd hu7 hb5n.2.1
  have hgw7:Grow w w7:=aX hu7 hb5n.2.2 hgw'
  apply T.any 2 [is (.slice (some ⟨bk,0,none⟩) 12 512),is (.slice (some ⟨b5,0,none⟩) 32 32)]
  ·rfl
  ·repeat' (first|exact bW|refine bU ?_ ?_)
   iterate 2
    ·(refine aR rfl rfl rfl ?_);( intro wq _ _ hgq;(repeat (refine aG rfl rfl ?_;intro vq hvq;try (obtain rfl:=hvq)));(refine aN ?_))
     repeat (first|refine TL.nil ?_|(refine eX ?_;first|refine eP rfl (cA _) (jU rfl) (by omega) (by omega) (by omega) rfl rfl ?_|refine eP rfl (cA _) (cA _) (by omega) (by omega) (by omega) rfl rfl ?_))
     exact aT rfl yG rfl
  ·intro w8 lo8 hi8 hg8 _ _
   ((repeat (refine aG rfl rfl ?_;intro vq hvq;try (obtain rfl:=hvq)));(refine aN ?_))
   have hb78:=hb7.grow hg8
   have hs8:=lD (o:=0) (m:=32) (c:=32) hb78 (by omega) (Nat.le_refl _) (by decide)
   rw [List.drop_zero,List.take_of_length_le (by omega)] at hs8
   refine TL.copyB (b:=bk) (o:=0) (m:=12) (c:=512) rfl rfl (hb27.grow hg8) hs8 (eD D) (by rw [dA,List.length_append,dZ,hl5];omega) rfl ?_
   intro w9 hu9 hb9 hz9
   have hfin:jC (cX (zs 12++B)) 0 ((cX D).take (min 32 12))=cX (D.take 12++B):=by
    rw [show min 32 12=12 from rfl,show (cX D).take 12=cX (D.take 12) by simp [cX,List.map_take],putAt_bys (by rw [List.length_take,List.length_append,dZ];omega)]
    have e1:(D.take 12).length=12:=by rw [List.length_take,hD];rfl
    rw [e1,List.take_zero,List.nil_append,Nat.zero_add,List.drop_left' (dZ 12)]
   rw [hfin] at hb9
   have hl9:(D.take 12++B).length=512:=by rw [List.length_append,List.length_take,hD,hl5];rfl
   have hb49:=(hb47.grow hg8).upd hu9 hne.1
   have hgw9:Grow w w9:=aX hu9 hne.2.1 (hgw7.trans hg8)
   generalize D.take 12++B=R at *
   repeat (first|refine TL.loadBy rfl hb9 hl9 rfl ?_|(refine aP ?_;refine iZ rfl rfl hb49 (dZ _) hl9 ?_;intro w10 hu10 hb10 _)|refine TL.nil ?_|refine aA ?_|refine aJ ?_|refine aC ?_|refine bE ?_)
   exact retC rfl (bV hb10 (by rw [dA,hl9];rfl)) ⟨_,rfl,rfl,aX hu10 hne.2.2 hgw9⟩
end Go.Proofs.YtfpadnmdafiddaaGreatDoor
namespace Go.Proofs.YtfpadnmdafiddaaGreatDoor
open Go Go.RowKit Go.V
def kC (l:List Nat):List Value:=l.map λ (x:Nat)=>.int .u64 (x:Int)
theorem gQ (l:List Nat):(kC l).length=l.length:=by simp [kC]
theorem ws64_at {l:List Nat} {i:Nat} (h:i<l.length):(kC l)[i]? = some (.int .u64 ((l.getD i 0:Nat):Int)):=by
 simp [kC,List.getD_eq_getElem?_getD,h]
instance:PtrTy Tryz.prog 25:=⟨by kernel_rfl⟩
def pgc (p d u c W:Nat):List Value:=[.pointer (some ⟨p,0,none⟩),.pointer (some ⟨d,0,none⟩),.int .i64 (c:Int),.slice (some ⟨u,0,none⟩) W W]
structure PL where
 p:Nat
 d:Nat
 u:Nat
 m:Nat
 s:Nat
structure PgAt (w:World) (L:PL) (g:Pg):Prop where
 blk:Blk w L.p 150 (pgc L.p L.d L.u g.count g.words.length)
 used:Blk w L.u 168 (kC g.words)
 ok:PgOk g
 cnt:g.count≤8192
 f:∃ f:Nat→Option Value,DkAt w L.d L.s L.m (2*g.count) f∧∀ n,dE g n=true→f (2*n)=some (.agg (cX ((lX n (g.body n)).take 256)).toArray)∧f (2*n+1)=some (.agg (cX ((lX n (g.body n)).drop 256)).toArray)
 lt:∀ n,∀ x∈g.body n,x<256
 bl:∀ n,dE g n=true→(g.body n).length=500
 ne:L.p≠L.u∧L.p≠L.m∧L.u≠L.m∧L.d≠L.u∧L.d≠L.p
theorem valid_c {w:World} {L:PL} {g:Pg} (h:PgAt w L g) :
  Calls Tryz.prog 85 #[.pointer (some ⟨L.p,0,none⟩)] w (Ret λ v w'=>v=.bool true∧w=w'):=by
 refine V.calls (args:=[_]) Tryz.func85 rfl Tryz.ntmps85 rfl rfl ?_
 have hb:=h.blk
 unfold pgc at hb
 repeat (first|(refine dW 25 ?_;refine TL.neNilP rfl rfl rfl ?_)|(refine TL.isEqT 25 ?_;refine TL.eqSame rfl rfl rfl ?_)|refine aU rfl rfl rfl ?_|(refine aB ?_;refine TL.pure rfl rfl ?_)|(refine aD ?_;refine TL.pure rfl rfl ?_)|refine aK rfl yM rfl ?_|refine aF rfl rfl ?_|refine TL.nil ?_|refine aA ?_|refine aJ ?_|refine aC ?_|refine bM rfl rfl ?_|refine bE ?_|refine TL.pure rfl rfl ?_)
 exact cI rfl ⟨_,rfl,rfl,rfl⟩
theorem has_c {w:World} {L:PL} {g:Pg} (h:PgAt w L g) (n:Nat) (hn:n<9223372036854775808) :
  Calls Tryz.prog 91 #[.pointer (some ⟨L.p,0,none⟩),.int .i64 (n:Int)] w (Ret λ v w'=>v=.bool (dE g n)∧w=w'):=by
 refine V.calls (args:=[_,_]) Tryz.func91 rfl Tryz.ntmps91 rfl rfl ?_
 have hb:=h.blk
 have hu:=h.used
 have hcn:=h.cnt
 unfold pgc at hb
 by_cases hlt:n<g.count
 ·have hdv:=used_div h.ok hlt
  have hux:Sl (λ k=>k=L.u) w 1 (some ⟨L.u,0,none⟩) g.words.length g.words.length (kC g.words):=bR (sz:=1) (m:=g.words.length) hu (by rw [gQ,Nat.mul_one]) (by unfold maxLen;have:=h.ok.wl;omega)
  have hcell:w.cell? (at' (some ⟨L.u,0,none⟩) (n / 64))=some (.int .u64 ((g.words.getD (n / 64) 0:Nat):Int)):=hux.row.cell (ws64_at hdv)
  have hup:dE g n=(g.words.getD (n / 64) 0).testBit (n%64):=by simp [dE,hlt]
  rw [hup,Nat.testBit_eq_decide_div_mod_eq]
  have hxl:g.words.getD (n / 64) 0<18446744073709551616:=by
   rw [List.getD_eq_getElem?_getD,List.getElem?_eq_getElem hdv];exact h.ok.w64 _ (List.getElem_mem _)
  generalize g.words.getD (n / 64) 0=x at *
  have hq:x / 2^(n%64)<18446744073709551616:=Nat.lt_of_le_of_lt (Nat.div_le_self ..) hxl
  have hr:x / 2^(n%64)%2=1∨x / 2^(n%64)%2=0:=by omega
  repeat (first|(refine bC ?_;refine aV (j:=n / 64) rfl rfl (by omega) hdv (Nat.mul_one _) ⟨_,_,hux⟩ rfl ?_)|(refine TL.isAnd ?_;refine TL.andU rfl rfl rfl rfl hq (by omega) rfl ?_)|refine aU rfl rfl rfl ?_|(refine aB ?_;refine TL.pure rfl rfl ?_)|(refine aD ?_;refine TL.pure rfl rfl ?_)|refine aK rfl yM rfl ?_|refine aF rfl rfl ?_|refine TL.nil ?_|refine aA ?_|refine aJ ?_|refine aC ?_|(refine fZ ?_;refine jL rfl rfl (by (simp only [IntKind.bits];omega)) rfl ?_)|(refine TL.isRem ?_;refine TL.remU rfl rfl (by omega) rfl ?_)|(refine kB ?_;refine mF rfl rfl (by omega) (by omega) rfl ?_)|(refine aH ?_;first|refine aZ rfl yD rfl ?_|refine TL.pure rfl rfl ?_)|refine bM rfl rfl ?_|refine bE ?_|refine TL.pure rfl rfl ?_)
  exact cI rfl ⟨_,rfl,by
   congr 1
   rcases hr with hr|hr<;>rw [hr]<;>rfl,rfl⟩
 ·have hup:dE g n=false:=by simp [dE,hlt]
  rw [hup]
  repeat (first|(refine eA ?_;first|refine bH rfl rfl rfl ?_|refine aU rfl rfl rfl ?_)|(refine aB ?_;refine TL.pure rfl rfl ?_)|(refine aD ?_;refine TL.pure rfl rfl ?_)|refine aK rfl yM rfl ?_|refine aF rfl rfl ?_|refine TL.nil ?_|refine aA ?_|refine aJ ?_|refine aC ?_|(refine aH ?_;first|refine aZ rfl yD rfl ?_|refine aQ rfl yD rfl ?_)|refine bM rfl rfl ?_|refine bE ?_|refine TL.pure rfl rfl ?_)
  exact cI rfl ⟨_,rfl,rfl,rfl⟩
theorem has_neg {w:World} {L:PL} (p':List Value) :
  Calls Tryz.prog 91 #[.pointer (some ⟨L.p,0,none⟩),.int .i64 (-1)] w (Ret λ v w'=>v=.bool false∧w=w'):=by
 refine V.calls (args:=[_,_]) Tryz.func91 rfl Tryz.ntmps91 rfl rfl ?_
 repeat (first|refine bH rfl rfl rfl ?_|(refine aB ?_;refine TL.pure rfl rfl ?_)|(refine aD ?_;refine TL.pure rfl rfl ?_)|refine TL.nil ?_|refine aA ?_|refine aJ ?_|refine aC ?_|(refine aH ?_;refine TL.pure rfl rfl ?_)|refine bE ?_|refine TL.pure rfl rfl ?_)
 exact cI rfl ⟨_,rfl,rfl,rfl⟩
theorem pcheck_c {w:World} {L:PL} {g:Pg} (h:PgAt w L g) (n:Nat) (hn:n<9223372036854775808) :
  Calls Tryz.prog 128 #[.pointer (some ⟨L.p,0,none⟩),.int .i64 (n:Int)] w (Ret λ v w'=>v=.int .i64 (if dE g n=true then 0 else 6)∧w=w'):=by
 refine V.calls (args:=[_,_]) Tryz.func128 rfl Tryz.ntmps128 rfl rfl ?_
 repeat (first|(refine aL 85 ?_;refine aI rfl (valid_c h) rfl ?_;rintro _ _ ⟨rfl,rfl⟩)|(refine aL 91 ?_;refine aI rfl (has_c h n hn) rfl ?_;rintro _ _ ⟨rfl,rfl⟩)|(refine aB ?_;refine TL.pure rfl rfl ?_)|(refine aD ?_;refine TL.pure rfl rfl ?_)|refine TL.nil ?_|refine aA ?_|refine aJ ?_|refine aC ?_|refine aE rfl ?_|refine aW ?_|refine TL.pure rfl rfl ?_)
 cases hu:dE g n with
 | true =>
  repeat (first|(refine aD ?_;refine TL.pure rfl rfl ?_)|refine TL.nil ?_|refine aA ?_|refine aJ ?_|refine aC ?_|refine aE rfl ?_|refine bE ?_|refine aW ?_)
  exact cI rfl ⟨_,rfl,rfl,rfl⟩
 | false =>
  repeat (first|(refine aD ?_;refine TL.pure rfl rfl ?_)|refine TL.nil ?_|refine aA ?_|refine aJ ?_|refine aC ?_|refine aM rfl ?_|refine bE ?_|refine bI ?_)
  exact cI rfl ⟨_,rfl,rfl,rfl⟩
theorem pcheck_neg {w:World} {L:PL} {g:Pg} (h:PgAt w L g) :
  Calls Tryz.prog 128 #[.pointer (some ⟨L.p,0,none⟩),.int .i64 (-1)] w (Ret λ v w'=>v=.int .i64 6∧w=w'):=by
 refine V.calls (args:=[_,_]) Tryz.func128 rfl Tryz.ntmps128 rfl rfl ?_
 repeat (first|(refine aL 85 ?_;refine aI rfl (valid_c h) rfl ?_;rintro _ _ ⟨rfl,rfl⟩)|(refine aL 91 ?_;refine aI rfl (has_neg []) rfl ?_;rintro _ _ ⟨rfl,rfl⟩)|(refine aB ?_;refine TL.pure rfl rfl ?_)|(refine aD ?_;refine TL.pure rfl rfl ?_)|refine TL.nil ?_|refine aA ?_|refine aJ ?_|refine aC ?_|refine aM rfl ?_|refine aE rfl ?_|refine bE ?_|refine aW ?_|refine bI ?_|refine TL.pure rfl rfl ?_)
 exact cI rfl ⟨_,rfl,rfl,rfl⟩
end Go.Proofs.YtfpadnmdafiddaaGreatDoor
namespace Go.V
open Go Go.RowKit
section
variable [Rn]
variable {P:Program} {n:Nat} {e:dQ} {w:World} {Q:dS} {ops:Array Oper} {rest:List Oper} {d:Nat} {ty:TypeId} {pos:String} {aft:Array Edge}
theorem TL.orN6 {x y:Operand} {a b:Nat} {zx zy:Int} {t1 t2:TypeId} (hx:val e x=some (.int .u64 zx)) [ix:Lit zx a] (hy:val e y=some (.int .u64 zy)) [iy:Lit zy b] (ha:a<18446744073709551616) (hb:b<18446744073709551616) (hd:Nat.blt d n=true)
  (k:TL P n ops rest ((d,.int .u64 ((a|||b:Nat):Int))::e) w Q):TL P n ops (⟨some d,.binOp .or t1 x y t2,ty,pos,aft,none⟩::rest) e w Q :=
 TL.run (λ r hr=>by
  rw [ix.h] at hx;rw [iy.h] at hy
  have e1:((BitVec.ofInt IntKind.u64.bits (a:Int))|||(BitVec.ofInt IntKind.u64.bits (b:Int))).toNat=a|||b:=by
   rw [BitVec.toNat_or,bits_nat (M:=18446744073709551616) rfl,bits_nat (M:=18446744073709551616) rfl,Nat.mod_eq_of_lt ha,Nat.mod_eq_of_lt hb]
  have e2:=fB (kd:=.u64) (M:=18446744073709551616) rfl (show a|||b<18446744073709551616 from Nat.or_lt_two_pow (n:=64) ha hb)
  rw [← e1] at e2
  have hb:binOp .or t1 (.int .u64 (a:Int)) (.int .u64 (b:Int))=Pure.pure (.int .u64 ((a|||b:Nat):Int)):=by
   simp only [binOp,Op.intBits,ne_eq,not_true_eq_false,if_false]
   rw [e2,e1]
  simp only [execOp,cB,hr.eval hx,hr.eval hy,hb]
  rfl) hd k
end
end Go.V
namespace Go.Proofs.YtfpadnmdafiddaaGreatDoor
open Go Go.RowKit Go.V
theorem ws64_set (l:List Nat) (i x:Nat):(kC l).set i (.int .u64 (x:Int))=kC (l.set i x):=by simp [kC,List.map_set]
theorem pow_lt64 (n:Nat):2^(n%64)<18446744073709551616:=by
 have:n%64<64:=Nat.mod_lt _ (by omega)
 calc 2^(n%64)<2^64:=Nat.pow_lt_pow_right (by omega) this
  _=18446744073709551616:=by decide
theorem mark_c {w:World} {p u W:Nat} {x0 x1 x2:Value} {l:List Nat} (hb:Blk w p 150 [x0,x1,x2,.slice (some ⟨u,0,none⟩) W W]) (hu:Blk w u 168 (kC l)) (hW:l.length=W) (h64:∀ x∈l,x<18446744073709551616) (n:Nat) (hn:n / 64<W) (hW2:W≤1000) :
  Calls Tryz.prog 92 #[.pointer (some ⟨p,0,none⟩),.int .i64 (n:Int)] w (Ret λ v w'=>Blk w' u 168 (kC (hU l n))∧But u w w'):=by
 refine V.calls (args:=[_,_]) Tryz.func92 rfl Tryz.ntmps92 rfl rfl ?_
 subst hW
 have hx64:l.getD (n / 64) 0<18446744073709551616:=by
  rw [List.getD_eq_getElem?_getD,List.getElem?_eq_getElem hn];exact h64 _ (List.getElem_mem _)
 have hp64:=pow_lt64 n
 have hmk:hU l n=l.set (n / 64) (l.getD (n / 64) 0|||2^(n%64)):=rfl
 rw [hmk]
 have hg:=ws64_at hn
 generalize l.getD (n / 64) 0=x at *
 generalize hpw:2^(n%64)=y at *
 have hux:∀ w',Grow w w'→Sl (λ k=>k=u) w' 1 (some ⟨u,0,none⟩) l.length l.length (kC l):=λ w' g=>bR (sz:=1) (m:=l.length) (hu.grow g) (by rw [gQ,Nat.mul_one]) (by unfold maxLen;omega)
 have hux2:∀ w',Grow w w'→w'.cell? (at' (some ⟨u,0,none⟩) (n / 64))=some (.int .u64 (x:Int)):=λ w' g=>(hux w' g).row.cell hg
 repeat (refine aJ ?_)
 apply T.any 12 [is (.pointer (some ⟨p,0,none⟩)),is (.pointer (some ⟨p,0,none⟩)),is (.pointer (some ⟨p,3,none⟩)),is (.slice (some ⟨u,0,none⟩) l.length l.length),is (.int .i64 (n:Int)),is (.int .i64 ((n / 64:Nat):Int)),is (.pointer (some (at' (some ⟨u,0,none⟩) (n / 64)))),is (.int .u64 (x:Int)),is (.int .i64 (n:Int)),is (.int .i64 ((n%64:Nat):Int)),is (.int .u64 (y:Int)),is (.int .u64 ((x|||y:Nat):Int))]
 ·rfl
 ·repeat' (first|exact bW|refine bU ?_ ?_)
  iterate 6
   ·(refine aR rfl rfl rfl ?_);( intro wq _ _ hgq;(repeat (refine aG rfl rfl ?_;intro vq hvq;try (obtain rfl:=hvq)));(refine aN ?_))
    repeat (first|(refine aB ?_;refine TL.pure rfl rfl ?_)|refine aK rfl yM rfl ?_|refine aF rfl rfl ?_|refine TL.nil ?_|(refine kB ?_;refine mF rfl rfl (by omega) (by omega) rfl ?_)|refine bM rfl rfl ?_)
    exact aT rfl yG rfl
  ·(refine aR rfl rfl rfl ?_);( intro wq _ _ hgq;(repeat (refine aG rfl rfl ?_;intro vq hvq;try (obtain rfl:=hvq)));(refine aN ?_))
   refine aV (j:=n / 64) rfl rfl rfl hn (Nat.mul_one _) ⟨_,_,hux _ hgq⟩ rfl ?_
   repeat (refine TL.nil ?_)
   exact aT rfl yG rfl
  ·(refine aR rfl rfl rfl ?_);( intro wq _ _ hgq;(repeat (refine aG rfl rfl ?_;intro vq hvq;try (obtain rfl:=hvq)));(refine aN ?_))
   refine aK rfl (hux2 _ hgq) rfl ?_
   repeat (refine TL.nil ?_)
   exact aT rfl yG rfl
  iterate 2
   ·(refine aR rfl rfl rfl ?_);( intro wq _ _ hgq;(repeat (refine aG rfl rfl ?_;intro vq hvq;try (obtain rfl:=hvq)));(refine aN ?_))
    repeat (first|(refine aB ?_;refine TL.pure rfl rfl ?_)|refine TL.nil ?_|(refine TL.isRem ?_;refine TL.remU rfl rfl (by omega) rfl ?_))
    exact aT rfl yG rfl
  ·(refine aR rfl rfl rfl ?_);( intro wq _ _ hgq;(repeat (refine aG rfl rfl ?_;intro vq hvq;try (obtain rfl:=hvq)));(refine aN ?_))
   refine TL.shlS (a:=1) (M:=18446744073709551616) rfl rfl rfl (by show n%64≤64;omega) (by rw [Nat.one_mul,hpw];exact hp64) rfl ?_
   rw [Nat.one_mul,hpw]
   repeat (refine TL.nil ?_)
   exact aT rfl yG rfl
  ·(refine aR rfl rfl rfl ?_);( intro wq _ _ hgq;(repeat (refine aG rfl rfl ?_;intro vq hvq;try (obtain rfl:=hvq)));(refine aN ?_))
   refine TL.orN6 rfl rfl hx64 hp64 rfl ?_
   repeat (refine TL.nil ?_)
   exact aT rfl yG rfl
 ·intro w6 lo6 hi6 hg6 _ _
  ((repeat (refine aG rfl rfl ?_;intro vq hvq;try (obtain rfl:=hvq)));(refine aN ?_))
  refine aV (j:=n / 64) rfl rfl rfl hn (Nat.mul_one _) ⟨_,_,hux _ hg6⟩ rfl ?_
  rw [show at' (some ⟨u,0,none⟩) (n / 64)=⟨u,n / 64,none⟩ by rw [at_some,Nat.zero_add]]
  repeat (refine aJ ?_)
  refine bQ rfl rfl (hu.grow hg6) rfl (by rw [gQ];exact Nat.ble_eq_true_of_le hn) (ws64_set _ _ _) ?_
  intro w7 hu7 hb7 _
  repeat (refine TL.nil ?_)
  exact lT (vs:=[]) rfl rfl ⟨_,rfl,hb7,but_upd hu7 (but_grow' hg6)⟩
end Go.Proofs.YtfpadnmdafiddaaGreatDoor
namespace Go.V
open Go Go.RowKit
section
variable [Rn]
variable {P:Program} {n:Nat} {e:dQ} {w:World} {Q:dS} {ops:Array Oper} {rest:List Oper} {d:Nat} {ty:TypeId} {pos:String} {aft:Array Edge}
theorem TL.andN6 {x y:Operand} {a b:Nat} {zx zy:Int} {t1 t2:TypeId} (hx:val e x=some (.int .u64 zx)) [ix:Lit zx a] (hy:val e y=some (.int .u64 zy)) [iy:Lit zy b] (ha:a<18446744073709551616) (hb:b<18446744073709551616) (hd:Nat.blt d n=true)
  (k:TL P n ops rest ((d,.int .u64 ((a&&&b:Nat):Int))::e) w Q):TL P n ops (⟨some d,.binOp .and t1 x y t2,ty,pos,aft,none⟩::rest) e w Q :=
 TL.run (λ r hr=>by
  rw [ix.h] at hx;rw [iy.h] at hy
  have e1:((BitVec.ofInt IntKind.u64.bits (a:Int))&&&(BitVec.ofInt IntKind.u64.bits (b:Int))).toNat=a&&&b:=by
   rw [BitVec.toNat_and,bits_nat (M:=18446744073709551616) rfl,bits_nat (M:=18446744073709551616) rfl,Nat.mod_eq_of_lt ha,Nat.mod_eq_of_lt hb]
  have e2:=fB (kd:=.u64) (M:=18446744073709551616) rfl (show a&&&b<18446744073709551616 from Nat.lt_of_le_of_lt Nat.and_le_left ha)
  rw [← e1] at e2
  have hb:binOp .and t1 (.int .u64 (a:Int)) (.int .u64 (b:Int))=Pure.pure (.int .u64 ((a&&&b:Nat):Int)):=by
   simp only [binOp,Op.intBits,ne_eq,not_true_eq_false,if_false]
   rw [e2,e1]
  simp only [execOp,cB,hr.eval hx,hr.eval hy,hb]
  rfl) hd k
theorem TL.negN6 {x:Operand} {a:Nat} {zx:Int} {t1:TypeId} (hx:val e x=some (.int .u64 zx)) [ix:Lit zx a] (h0:0<a) (ha:a<18446744073709551616) (hd:Nat.blt d n=true)
  (k:TL P n ops rest ((d,.int .u64 ((18446744073709551616-a:Nat):Int))::e) w Q):TL P n ops (⟨some d,.unOp .neg t1 x,ty,pos,aft,none⟩::rest) e w Q :=
 TL.pure (by
  rw [ix.h] at hx
  simp only [pureOp,hx]
  have e1:IntKind.u64.wrap (0-(a:Int))=((18446744073709551616-a:Nat):Int):=by
   simp only [IntKind.wrap,IntKind.signed,IntKind.bits]
   simp
   omega
  rw [e1]) hd k
theorem TL.isAndW {x y:Operand} {t1 t2:TypeId} {d:Option Nat} (h:TL P n ops (⟨d,.binOp .and t1 x y t2,ty,pos,aft,none⟩::rest) e w Q):TL P n ops (⟨d,.binOp .and t1 x y t2,ty,pos,aft,none⟩::rest) e w Q:=h
theorem TL.notN6 {x:Operand} {a:Nat} {zx:Int} {t1:TypeId} (hx:val e x=some (.int .u64 zx)) [ix:Lit zx a] (ha:a<18446744073709551616) (hd:Nat.blt d n=true)
  (k:TL P n ops rest ((d,.int .u64 ((18446744073709551615-a:Nat):Int))::e) w Q):TL P n ops (⟨some d,.unOp .xor t1 x,ty,pos,aft,none⟩::rest) e w Q :=
 TL.run (λ r hr=>by
  rw [ix.h] at hx
  have e1:(BitVec.ofInt IntKind.u64.bits (18446744073709551615:Int) ^^^ BitVec.ofInt IntKind.u64.bits (a:Int)).toNat=18446744073709551615-a:=by
   have h1:BitVec.ofInt IntKind.u64.bits (18446744073709551615:Int)=(BitVec.allOnes 64:BitVec 64):=(by decide:BitVec.ofInt 64 18446744073709551615=BitVec.allOnes 64)
   rw [h1]
   show (BitVec.allOnes 64 ^^^ BitVec.ofInt 64 (a:Int)).toNat=_
   rw [BitVec.allOnes_xor,BitVec.toNat_not]
   have h2:(BitVec.ofInt 64 (a:Int)).toNat=a:=by
    have:=bits_nat (kd:=.u64) (M:=18446744073709551616) rfl a
    rw [Nat.mod_eq_of_lt ha] at this
    exact this
   rw [h2]
  have e2:=fB (kd:=.u64) (M:=18446744073709551616) rfl (show 18446744073709551615-a<18446744073709551616 by omega)
  rw [← e1] at e2
  have hb:Op.intBits .xor .u64 18446744073709551615 (a:Int)=Pure.pure (.int .u64 ((18446744073709551615-a:Nat):Int)):=by
   simp only [Op.intBits,ne_eq,not_true_eq_false,if_false]
   rw [e2,e1]
  have hs:(if IntKind.u64.signed=true then (-1:Int) else IntKind.u64.max)=18446744073709551615:=by decide
  simp only [execOp,hr.eval hx,Op.unary]
  rw [hs,hb]
  rfl) hd k
end
end Go.V
namespace Go.Proofs.YtfpadnmdafiddaaGreatDoor
open Go Go.RowKit Go.V
theorem odd_split:∀ (x:Nat),x≠0→∃ k m,x=2^k*(2*m+1):=by
 intro x
 induction x using Nat.strongRecOn with
 | _ x ih =>
  intro h
  by_cases h2:x%2=1
  ·exact ⟨0,x / 2,by omega⟩
  ·obtain ⟨k,m,hk⟩:=ih (x / 2) (by omega) (by omega)
   exact ⟨k+1,m,by rw [Nat.pow_succ,Nat.mul_comm (2^k) 2,Nat.mul_assoc,← hk];omega⟩
theorem mD (k m i:Nat):(2^k*(2*m+1)).testBit i=if i<k then false else if i=k then true else m.testBit (i-k-1):=by
 have h:=Nat.testBit_two_pow_mul_add (2*m+1) (b:=0) (i:=k) (Nat.two_pow_pos k) i
 rw [Nat.add_zero] at h
 rw [h]
 by_cases h1:i<k
 ·simp [h1]
 ·rw [if_neg h1,if_neg h1]
  by_cases h2:i=k
  ·subst h2;simp
  ·rw [if_neg h2]
   obtain ⟨t,ht⟩:∃ t,i-k=t+1:=⟨i-k-1,by omega⟩
   rw [ht,Nat.testBit_succ,show (2*m+1) / 2=m by omega]
   rfl
theorem bit_pred (k m i:Nat):(2^k*(2*m+1)-1).testBit i=if i<k then true else if i=k then false else m.testBit (i-k-1):=by
 have hp:=Nat.two_pow_pos k
 have e:2^k*(2*m+1)-1=2^k*(2*m)+(2^k-1):=by rw [Nat.mul_add,Nat.mul_one];omega
 rw [e,Nat.testBit_two_pow_mul_add (2*m) (b:=2^k-1) (i:=k) (by omega) i]
 by_cases h1:i<k
 ·simp [h1,Nat.testBit_two_pow_sub_one]
 ·rw [if_neg h1,if_neg h1]
  by_cases h2:i=k
  ·subst h2;simp
  ·rw [if_neg h2]
   obtain ⟨t,ht⟩:∃ t,i-k=t+1:=⟨i-k-1,by omega⟩
   rw [ht,Nat.testBit_succ,show (2*m) / 2=m by omega]
   rfl
theorem low_bit (k m:Nat) (h:2^k*(2*m+1)<18446744073709551616):(2^k*(2*m+1))&&&(18446744073709551616-2^k*(2*m+1))=2^k:=by
 apply Nat.eq_of_testBit_eq
 intro i
 have hp:=Nat.two_pow_pos k
 have hpos:0<2^k*(2*m+1):=Nat.mul_pos hp (by omega)
 have e:18446744073709551616-2^k*(2*m+1)=2^64-((2^k*(2*m+1)-1)+1):=by
  rw [Nat.sub_add_cancel hpos]
 rw [Nat.testBit_and,e,Nat.testBit_two_pow_sub_succ (by omega),mD,bit_pred,Nat.testBit_two_pow]
 have hk64:k<64:=by
  rcases Nat.lt_or_ge k 64 with h1|h1
  ·exact h1
  ·have h2:2^64≤2^k:=Nat.pow_le_pow_right (by omega) h1
   have h3:2^k*1≤2^k*(2*m+1):=Nat.mul_le_mul_left _ (by omega)
   have h4:(2:Nat)^64=18446744073709551616:=by decide
   omega
 by_cases h1:i<k
 ·simp [h1];omega
 ·by_cases h2:i=k
  ·subst h2;simp [hk64]
  ·simp only [h1,h2,if_false]
   cases m.testBit (i-k-1)<;>simp<;>omega
end Go.Proofs.YtfpadnmdafiddaaGreatDoor
namespace Go.Proofs.YtfpadnmdafiddaaGreatDoor
open Go Go.RowKit Go.V
def tabB:Bs:=[0,1,56,2,57,49,28,3,61,58,42,50,38,29,17,4,62,47,59,36,45,43,51,22,53,39,33,30,24,18,12,5,63,55,48,27,60,41,37,16,46,35,44,21,52,32,23,11,54,26,40,15,34,20,31,10,25,14,19,9,13,8,7,6]
def TabAt (w:World):Prop:=0<w.heap.size∧∀ (j x:Nat),tabB[j]? = some x→w.cell? ⟨0,j,none⟩=some (.int .u8 (x:Int))
theorem TabAt.keep {w w':World} (h:TabAt w) (h0:w'.heap[0]? = w.heap[0]?) (hs:w.heap.size≤w'.heap.size):TabAt w' :=
 ⟨Nat.lt_of_lt_of_le h.1 hs,λ j x hj=>(World.cell?_of_block (w:=w) (a:=⟨0,j,none⟩) h0).trans (h.2 j x hj)⟩
theorem TabAt.grow {w w':World} (h:TabAt w) (g:Grow w w'):TabAt w':=h.keep (g.block 0 h.1) g.size
theorem TabAt.but {w w':World} {b:Nat} (h:TabAt w) (u:But b w w') (hb:b≠0):TabAt w':=h.keep (u.block 0 h.1 (by omega)) u.size
theorem tab_at:∀ k:Fin 64,2^k.val*285870213051353865%18446744073709551616 / 288230376151711744<64∧tabB[2^k.val*285870213051353865%18446744073709551616 / 288230376151711744]? = some k.val:=by decide +kernel
theorem tz0_c (w:World):Calls Tryz.prog 102 #[.int .u64 0] w (Ret λ v w'=>v=.int .i64 64∧w=w'):=by
 refine V.calls (args:=[_]) Tryz.func102 rfl Tryz.ntmps102 rfl rfl ?_
 repeat (first|(refine aB ?_;refine TL.pure rfl rfl ?_)|(refine aD ?_;refine TL.pure rfl rfl ?_)|refine TL.nil ?_|refine aA ?_|refine aJ ?_|refine aC ?_|(refine aH ?_;refine TL.pure rfl rfl ?_)|refine aM rfl ?_|refine bE ?_|refine bI ?_)
 exact cI rfl ⟨_,rfl,rfl,rfl⟩
theorem tz_c (k m:Nat) (h:2^k*(2*m+1)<18446744073709551616) (hk:k<64) (w:World) (ht:TabAt w):Calls Tryz.prog 102 #[.int .u64 ((2^k*(2*m+1):Nat):Int)] w (Ret λ v w'=>v=.int .i64 (k:Int)∧w=w'):=by
 refine V.calls (args:=[_]) Tryz.func102 rfl Tryz.ntmps102 rfl rfl ?_
 have hlb:=low_bit k m h
 have hpos:0<2^k*(2*m+1):=Nat.mul_pos (Nat.two_pow_pos k) (by omega)
 have htab:=tab_at ⟨k,hk⟩
 simp only at htab
 generalize 2^k*(2*m+1)=x at *
 generalize hi:2^k*285870213051353865%18446744073709551616 / 288230376151711744=i at htab
 have hidx:2^k*285870213051353865%18446744073709551616 / 2^58=i:=hi
 have hcell:w.cell? ⟨0,i,none⟩=some (.int .u8 (k:Int)):=ht.2 i k htab.2
 repeat (first|(refine TL.isUn ?_;refine TL.negN6 rfl hpos h rfl ?_)|(refine TL.isAndW ?_;refine TL.andN6 rfl rfl h (by omega) rfl ?_;rw [hlb])|(refine aB ?_;refine TL.pure rfl rfl ?_)|(refine aD ?_;refine TL.pure rfl rfl ?_)|(refine bC ?_;refine eY rfl rfl (by omega) rfl ?_)|refine TL.mulW rfl rfl rfl rfl ?_|refine TL.nil ?_|refine aA ?_|refine aJ ?_|refine aC ?_|(refine fZ ?_;refine jL rfl rfl (by (simp only [IntKind.bits];omega)) rfl ?_)|(refine aH ?_;refine aQ rfl yD rfl ?_)|refine aE rfl ?_|refine aW ?_)
 rw [hidx]
 repeat (first|refine aK rfl hcell rfl ?_|(refine aD ?_;refine TL.pure rfl rfl ?_)|refine TL.nil ?_|refine aA ?_|(refine cR ?_;refine lQ rfl (by omega) rfl ?_)|refine bE ?_)
 exact cI rfl ⟨_,rfl,rfl,rfl⟩
end Go.Proofs.YtfpadnmdafiddaaGreatDoor
namespace Go.Proofs.YtfpadnmdafiddaaGreatDoor
open Go Go.RowKit Go.V
theorem word_low (x:Nat) (h:x<18446744073709551616):x=18446744073709551615∨∃ k m,18446744073709551615-x=2^k*(2*m+1)∧k<64∧x.testBit k=false∧∀ i,i<k→x.testBit i=true:=by
 by_cases hx:x=18446744073709551615
 ·exact .inl hx
 ·right
  obtain ⟨k,m,hk⟩:=odd_split (18446744073709551615-x) (by omega)
  have hb:∀ i,i<64→x.testBit i = !(2^k*(2*m+1)).testBit i:=by
   intro i hi
   have e:2^k*(2*m+1)=2^64-(x+1):=by rw [← hk];omega
   rw [e,Nat.testBit_two_pow_sub_succ (by omega)]
   simp [hi]
  have hk64:k<64:=by
   rcases Nat.lt_or_ge k 64 with h1|h1
   ·exact h1
   ·have h2:2^64≤2^k:=Nat.pow_le_pow_right (by omega) h1
    have h3:2^k*1≤2^k*(2*m+1):=Nat.mul_le_mul_left _ (by omega)
    have h4:(2:Nat)^64=18446744073709551616:=by decide
    omega
  refine ⟨k,m,hk,hk64,?_,λ i hi=>?_⟩
  ·rw [hb k hk64,mD];simp
  ·rw [hb i (by omega),mD];simp [hi]
theorem ones_bit (i:Nat) (h:i<64):(18446744073709551615:Nat).testBit i=true:=by
 have:=Nat.testBit_two_pow_sub_one 64 i
 rw [show (2:Nat)^64-1=18446744073709551615 by decide] at this
 rw [this];simp [h]
theorem lowP_eq {g:Pg} {v:Nat} (hv:v≤g.count) (h1:∀ k,k<v→dE g k=true) (h2:v=g.count∨dE g v=false):lowP g=v:=by
 rcases Nat.lt_trichotomy (lowP g) v with h|h|h
 ·have:=lowP_free (s:=g) (by omega)
  rw [h1 _ h] at this
  cases this.2
 ·exact h
 ·have:=lowP_le g
  rcases h2 with h2|h2
  ·omega
  ·rw [lowP_used h] at h2;cases h2
theorem used_word {g:Pg} {i k:Nat} (hk:k<64) (h:64*i+k<g.count):dE g (64*i+k)=(g.words.getD i 0).testBit k:=by
 have e1:(64*i+k) / 64=i:=by omega
 have e2:(64*i+k)%64=k:=by omega
 simp [dE,h,e1,e2]
theorem lowest_c {w:World} {L:PL} {g:Pg} (h:PgAt w L g) (ht:TabAt w) :
  Calls Tryz.prog 122 #[.pointer (some ⟨L.p,0,none⟩)] w (Ret λ v w'=>v=.int .i64 (lowP g:Int)∧w=w'):=by
 refine V.calls (args:=[_]) Tryz.func122 rfl Tryz.ntmps122 rfl rfl ?_
 have hb:=h.blk
 have hu:=h.used
 have hcn:=h.cnt
 have hwl:=h.ok.wl
 unfold pgc at hb
 have hux:Sl (λ k=>k=L.u) w 1 (some ⟨L.u,0,none⟩) g.words.length g.words.length (kC g.words):=bR (sz:=1) (m:=g.words.length) hu (by rw [gQ,Nat.mul_one]) (by unfold maxLen;omega)
 repeat (first|(refine aB ?_;refine TL.pure rfl rfl ?_)|(refine aD ?_;refine TL.pure rfl rfl ?_)|refine aK rfl yM rfl ?_|refine aF rfl rfl ?_|refine TL.nil ?_|refine aA ?_|refine aJ ?_|refine aC ?_|refine T.block ?_|refine bM rfl rfl ?_|refine aO rfl rfl ?_)
 refine cU (S:=Nat) (λ i=>[(11,.int .i64 (i:Int)),(10,.int .i64 (g.words.length:Int)),(9,.slice (some ⟨L.u,0,none⟩) g.words.length g.words.length),(0,.pointer (some ⟨L.p,0,none⟩))]) (λ i w'=>w=w'∧i≤g.words.length∧∀ j,j<i→g.words.getD j 0=18446744073709551615) (λ i=>g.words.length-i) 0 ⟨rfl,rfl,rfl,rfl,trivial⟩ ⟨rfl,by omega,λ j hj=>by omega⟩ ?_
 rintro i _ ⟨rfl,hi,hall⟩
 have hbefore:∀ k,k<64*i→k<g.count→dE g k=true:=λ k hk hc=>by
  have:=used_word (g:=g) (i:=k / 64) (k:=k%64) (by omega) (by omega)
  rw [show 64*(k / 64)+k%64=k by omega,hall (k / 64) (by omega),ones_bit _ (by omega)] at this
  exact this
 by_cases hlt:i<g.words.length
 rotate_left
 ·have hlow:lowP g=g.count:=lowP_eq (Nat.le_refl _) (λ k hk=>hbefore k (by omega) hk) (.inl rfl)
  rw [hlow]
  repeat (first|(refine aB ?_;refine TL.pure rfl rfl ?_)|(refine aD ?_;refine TL.pure rfl rfl ?_)|refine aK rfl yM rfl ?_|refine aF rfl rfl ?_|refine TL.nil ?_|refine aA ?_|refine aJ ?_|refine aC ?_|(refine aH ?_;refine aQ rfl yD rfl ?_)|refine bM rfl rfl ?_|refine aE rfl ?_|refine bE ?_|refine cV ?_|refine bN ?_|refine bP ?_|refine bO ?_)
  exact cI rfl ⟨_,rfl,rfl,rfl⟩
 have hx64:g.words.getD i 0<18446744073709551616:=by
  rw [List.getD_eq_getElem?_getD,List.getElem?_eq_getElem hlt];exact h.ok.w64 _ (List.getElem_mem _)
 have hcell:w.cell? (at' (some ⟨L.u,0,none⟩) i)=some (.int .u64 ((g.words.getD i 0:Nat):Int)):=hux.row.cell (ws64_at hlt)
 have huw:=λ k (hk:k<64) (hc:64*i+k<g.count)=>used_word (g:=g) (i:=i) hk hc
 obtain ⟨x,hx⟩:∃ x,x=g.words.getD i 0:=⟨_,rfl⟩
 rw [← hx] at hcell hx64 huw
 rcases word_low x hx64 with hfull|⟨k,m,hk,hk64,hk0,hk1⟩
 ·subst hfull
  repeat (first|(refine bC ?_;refine aV (j:=i) rfl rfl rfl hlt (Nat.mul_one _) ⟨_,_,hux⟩ rfl ?_)|(refine TL.isUn ?_;refine TL.notN6 rfl hx64 rfl ?_)|(refine aL 102 ?_;refine aI rfl (tz0_c _) rfl ?_;rintro _ _ ⟨rfl,rfl⟩)|(refine hE ?_;refine hY (a:=64) rfl rfl (by omega) rfl ?_)|(refine aB ?_;refine TL.pure rfl rfl ?_)|(refine aD ?_;refine TL.pure rfl rfl ?_)|refine aK rfl yM rfl ?_|(refine bL ?_;refine bT rfl rfl (by omega) rfl ?_)|refine TL.nil ?_|refine aA ?_|refine aJ ?_|refine aC ?_|refine T.block ?_|refine aS ?_|(refine aH ?_;first|refine aZ rfl yD rfl ?_|refine aQ rfl yD rfl ?_)|refine aM rfl ?_|refine aE rfl ?_|refine aW ?_)
  exact bG (i+1) ⟨rfl,rfl,rfl,rfl,trivial⟩ ⟨rfl,by omega,λ j hj=>by
   by_cases hj2:j=i
   ·subst hj2;exact hx.symm
   ·exact hall j (by omega)⟩ (by omega)
 ·have hlow:lowP g=min (64*i+k) g.count:=by
   by_cases hc:64*i+k<g.count
   ·rw [Nat.min_eq_left (by omega)]
    refine lowP_eq (by omega) (λ j hj=>?_) (.inr ?_)
    ·by_cases hji:j<64*i
     ·exact hbefore j hji (by omega)
     ·have:=huw (j-64*i) (by omega) (by omega)
      rw [show 64*i+(j-64*i)=j by omega,hk1 _ (by omega)] at this
      exact this
    ·rw [huw k hk64 hc,hk0]
   ·rw [Nat.min_eq_right (by omega)]
    refine lowP_eq (Nat.le_refl _) (λ j hj=>?_) (.inl rfl)
    by_cases hji:j<64*i
    ·exact hbefore j hji hj
    ·have:=huw (j-64*i) (by omega) (by omega)
     rw [show 64*i+(j-64*i)=j by omega,hk1 _ (by omega)] at this
     exact this
  rw [hlow]
  repeat (first|(refine bC ?_;refine aV (j:=i) rfl rfl rfl hlt (Nat.mul_one _) ⟨_,_,hux⟩ rfl ?_)|(refine TL.isUn ?_;refine TL.notN6 rfl hx64 rfl ?_;rw [hk])|(refine aL 102 ?_;refine aI rfl (tz_c k m (by omega) hk64 _ ht) rfl ?_;rintro _ _ ⟨rfl,rfl⟩)|(refine hE ?_;refine hY (a:=64) rfl rfl (by omega) rfl ?_)|(refine jG ?_;refine TL.minV (r:=((min (64*i+k) g.count:Nat):Int)) rfl rfl (by split<;>omega) rfl ?_)|(refine aB ?_;refine TL.pure rfl rfl ?_)|(refine aD ?_;refine TL.pure rfl rfl ?_)|refine aK rfl yM rfl ?_|refine aF rfl rfl ?_|(refine bL ?_;refine bT rfl rfl (by omega) rfl ?_)|refine TL.nil ?_|refine aA ?_|refine aJ ?_|refine aC ?_|refine T.block ?_|(refine aH ?_;refine aZ rfl yD rfl ?_)|refine bM rfl rfl ?_|refine aM rfl ?_|refine bE ?_|refine aW ?_|refine bI ?_|refine cZ ?_|refine dY ?_)
  exact cI rfl ⟨_,rfl,rfl,rfl⟩
end Go.Proofs.YtfpadnmdafiddaaGreatDoor
namespace Go.Proofs.YtfpadnmdafiddaaGreatDoor
open Go Go.RowKit Go.V
structure ButS (S:Nat→Prop) (w w':World):Prop where
 os:w'.os=w.os
 tape:w'.tape=w.tape
 output:w'.output=w.output
 size:w.heap.size≤w'.heap.size
 block:∀ k,k<w.heap.size→¬ S k→w'.heap[k]? = w.heap[k]?
theorem ButS.trans {S:Nat→Prop} {a b c:World} (h:ButS S a b) (k:ButS S b c):ButS S a c :=
 ⟨k.os.trans h.os,k.tape.trans h.tape,k.output.trans h.output,Nat.le_trans h.size k.size,λ i hi hs=>(k.block i (Nat.lt_of_lt_of_le hi h.size) hs).trans (h.block i hi hs)⟩
theorem ButS.grow {S:Nat→Prop} {w w':World} (g:Grow w w'):ButS S w w':=⟨g.1.os,g.1.tape,g.1.output,g.2,λ k hk _=>g.block k hk⟩
theorem ButS.but {S:Nat→Prop} {w w':World} {b:Nat} (u:But b w w') (hb:S b):ButS S w w':=⟨u.os,u.tape,u.output,u.size,λ k hk hs=>u.block k hk (λ e=>hs (e▸hb))⟩
theorem ButS.upd {S:Nat→Prop} {w0 w w':World} {b:Nat} (h:ButS S w0 w) (u:Upd b w w') (hb:w0.heap.size≤b):ButS S w0 w' :=
 ⟨u.os.trans h.os,u.tape.trans h.tape,u.output.trans h.output,by rw [u.size];exact h.size,λ k hk hs=>(u.block k (by omega)).trans (h.block k hk hs)⟩
theorem Carry.buts {S F:Nat→Prop} {w w':World} (u:ButS S w w') (hb:∀ k,F k→k<w.heap.size→¬ S k):Carry F w F w':=⟨u.size,λ k hk h=>⟨hk,u.block k h (hb k hk h)⟩⟩
theorem dG {S:Nat→Prop} {w w':World} {b:Nat} {t:TypeId} {cs:List Value} (h:Blk w b t cs) (u:ButS S w w') (hb:¬ S b):Blk w' b t cs:=by
 have hl:=h.lt
 unfold Blk at *
 rw [u.block b hl hb];exact h
theorem TabAt.buts {S:Nat→Prop} {w w':World} (h:TabAt w) (u:ButS S w w') (hb:¬ S 0):TabAt w':=h.keep (u.block 0 h.1 hb) u.size
def PL.S (L:PL) (k:Nat):Prop:=k=L.u∨k=L.m∨k=L.p
theorem PgAt.grow {w w':World} {L:PL} {g:Pg} (h:PgAt w L g) (gr:Grow w w'):PgAt w' L g:=by
 obtain ⟨f,h1,h2⟩:=h.f
 exact ⟨h.blk.grow gr,h.used.grow gr,h.ok,h.cnt,⟨f,h1.grow gr,h2⟩,h.lt,h.bl,h.ne⟩
theorem PgAt.upd {w w':World} {L:PL} {g:Pg} {b:Nat} (h:PgAt w L g) (u:Upd b w w') (hb:b≠L.p∧b≠L.d∧b≠L.u∧b≠L.m):PgAt w' L g:=by
 obtain ⟨f,h1,h2⟩:=h.f
 exact ⟨h.blk.upd u (Ne.symm hb.1),h.used.upd u (Ne.symm hb.2.2.1),h.ok,h.cnt,⟨f,h1.keep (u.block _ (Ne.symm hb.2.1)) (u.block _ (Ne.symm hb.2.2.2)),h2⟩,h.lt,h.bl,h.ne⟩
theorem PgAt.lts {w:World} {L:PL} {g:Pg} (h:PgAt w L g):L.p<w.heap.size∧L.d<w.heap.size∧L.u<w.heap.size∧L.m<w.heap.size:=by
 obtain ⟨f,h1,h2⟩:=h.f
 exact ⟨h.blk.lt,h1.blk.lt,h.used.lt,h1.map.lt⟩
theorem body500_idem (b:Bs) (h:b.length≤500):eF (eF b)=eF b:=by
 have hl:=lY b h
 rw [show eF (eF b)=eF b++zs (500-(eF b).length) from rfl,hl]
 exact List.append_nil _
theorem pageB_body (n:Nat) (b:Bs) (h:b.length≤500):lX n (eF b)=lX n b:=by
 unfold lX;rw [body500_idem b h]
end Go.Proofs.YtfpadnmdafiddaaGreatDoor
namespace Go.Proofs.YtfpadnmdafiddaaGreatDoor
open Go Go.RowKit Go.V
theorem new_c {w:World} {L:PL} {g:Pg} (h:PgAt w L g) (ht:TabAt w) (F:Nat→Prop) (a:Option Addr) (m c:Nat) (b:Bs) (hs:Sl F w 1 a m c (cX b)) (hm:m≤500) (hbl:∀ x∈b,x<256) (n:Nat) (g':Pg) (hne:newP g b=some (n,g')) :
  Calls Tryz.prog 45 #[.pointer (some ⟨L.p,0,none⟩),.slice a m c] w (Ret λ v w'=>v=.tuple #[.int .i64 (n:Int),.int .i64 0]∧PgAt w' L g'∧ButS L.S w w'):=by
 have hnew:=newP_new h.ok hne
 have hlen:=iD hs
 have hlow:lowP g=n:=by
  unfold newP at hne
  simp only at hne
  split at hne
  ·cases hne
  ·cases hne;rfl
 have hgw:g'.words=hU g.words n:=by
  unfold newP at hne
  simp only at hne
  split at hne
  ·cases hne
  ·cases hne;rfl
 have hcn:=h.cnt
 have hlt:=hnew.lt
 have hlo:=lowest_c h ht
 rw [hlow] at hlo
 refine V.calls (args:=[_,_]) Tryz.func45 rfl Tryz.ntmps45 rfl rfl ?_
 have hb:=h.blk
 unfold pgc at hb
 repeat (first|(refine aL 85 ?_;refine aI rfl (valid_c h) rfl ?_;rintro _ _ ⟨rfl,rfl⟩)|(refine aL 122 ?_;refine aI rfl (hlo) rfl ?_;rintro _ _ ⟨rfl,rfl⟩)|(refine aB ?_;refine TL.pure rfl rfl ?_)|(refine aD ?_;refine TL.pure rfl rfl ?_)|refine aK rfl yM rfl ?_|refine aF rfl rfl ?_|refine TL.nil ?_|refine aA ?_|refine aJ ?_|refine aC ?_|(refine aH ?_;refine aQ rfl yD rfl ?_)|refine bM rfl rfl ?_|refine aO rfl rfl ?_|refine aE rfl ?_|refine aW ?_|refine TL.pure rfl rfl ?_)
 refine aL 123 ?_
 refine aI rfl (page_c F n (by omega) a m c b _ hs hm hbl) rfl ?_
 rintro _ w2 ⟨rfl,hg2⟩
 have hlp:=length_pageB n b (by omega)
 obtain ⟨pg,hpg⟩:∃ pg,pg=lX n b:=⟨_,rfl⟩
 rw [← hpg] at hlp ⊢
 refine bF ?_
 refine iG 512 zero_page rfl ?_
 intro b7 w3 hg3 hb7 q1 q2
 refine iZ rfl rfl hb7 (dZ _) hlp ?_
 intro w4 hu4 hb74 q3
 have h3:=h.grow (hg2.trans hg3)
 have hl:=h.lts
 have hz2:=hg2.size
 have h4:=h3.upd hu4 (by omega)
 have hbs4:ButS L.S w w4:=(ButS.grow (hg2.trans hg3)).upd hu4 (by omega)
 have hn7:b7≠L.p∧b7≠L.d∧b7≠L.u∧b7≠L.m:=by omega
 clear hb7 hg3 hg2 hu4 hb h3 hlo
 have hb:=h4.blk
 unfold pgc at hb
 obtain ⟨f,hd,hf⟩:=h4.f
 repeat (first|refine TL.nil ?_|refine aA ?_|refine aJ ?_)
 apply T.any 7 [is (.pointer (some ⟨L.p,0,none⟩)),is (.pointer (some ⟨L.p,0,none⟩)),is (.pointer (some ⟨L.p,1,none⟩)),is (.pointer (some ⟨L.d,0,none⟩)),is (.int .i64 (n:Int)),is (.int .i64 ((2*n:Nat):Int)),is (.slice (some ⟨b7,0,none⟩) 256 512)]
 ·rfl
 ·repeat' (first|exact bW|refine bU ?_ ?_)
  iterate 5
   ·(refine aR rfl rfl rfl ?_);( intro wq _ _ hgq;(repeat (refine aG rfl rfl ?_;intro vq hvq;try (obtain rfl:=hvq)));(refine aN ?_))
    repeat (first|(refine aB ?_;refine TL.pure rfl rfl ?_)|refine aK rfl yM rfl ?_|refine aF rfl rfl ?_|refine TL.nil ?_|refine bM rfl rfl ?_)
    exact aT rfl yG rfl
  ·(refine aR rfl rfl rfl ?_);( intro wq _ _ hgq;(repeat (refine aG rfl rfl ?_;intro vq hvq;try (obtain rfl:=hvq)));(refine aN ?_))
   refine hY (a:=2) rfl rfl (by omega) rfl ?_
   repeat (refine TL.nil ?_)
   exact aT rfl yG rfl
  ·(refine aR rfl rfl rfl ?_);( intro wq _ _ hgq;(repeat (refine aG rfl rfl ?_;intro vq hvq;try (obtain rfl:=hvq)));(refine aN ?_))
   repeat (first|refine TL.nil ?_|(refine eX ?_;refine eP rfl (cA _) (jU rfl) (by omega) (by omega) (by omega) rfl rfl ?_))
   exact aT rfl yG rfl
 intro w5 lo5 hi5 hg5 _ _
 ((repeat (refine aG rfl rfl ?_;intro vq hvq;try (obtain rfl:=hvq)));(refine aN ?_))
 have hs5:=lD (o:=0) (m:=256) (c:=512) (hb74.grow hg5) (by omega) (by omega) (by decide)
 rw [List.drop_zero] at hs5
 refine aL 124 ?_
 refine aI rfl (dwrite_c (hd.grow hg5) (2*n) (by omega) _ _ 512 _ hs5) rfl ?_
 rintro v6 w6 ⟨hd6,hu6⟩
 have hb6:=eH hu6 (hb.grow hg5) h.ne.2.1
 have hb76:=eH hu6 (hb74.grow hg5) hn7.2.2.2
 have hus6:=eH hu6 (h4.used.grow hg5) h.ne.2.2.1
 have hbs6:ButS L.S w w6:=hbs4.trans ((ButS.grow hg5).trans (ButS.but hu6 (.inr (.inl rfl))))
 clear hb74 hs5 hu6 hbs4
 repeat (first|refine TL.nil ?_|refine aA ?_|refine aJ ?_)
 apply T.any 8 [is (.pointer (some ⟨L.p,0,none⟩)),is (.pointer (some ⟨L.p,0,none⟩)),is (.pointer (some ⟨L.p,1,none⟩)),is (.pointer (some ⟨L.d,0,none⟩)),is (.int .i64 (n:Int)),is (.int .i64 ((2*n:Nat):Int)),is (.int .i64 ((2*n+1:Nat):Int)),is (.slice (some ⟨b7,256,none⟩) 256 256)]
 ·rfl
 ·repeat' (first|exact bW|refine bU ?_ ?_)
  iterate 5
   ·(refine aR rfl rfl rfl ?_);( intro wq _ _ hgq;(repeat (refine aG rfl rfl ?_;intro vq hvq;try (obtain rfl:=hvq)));(refine aN ?_))
    repeat (first|(refine aB ?_;refine TL.pure rfl rfl ?_)|refine aK rfl yM rfl ?_|refine aF rfl rfl ?_|refine TL.nil ?_|refine bM rfl rfl ?_)
    exact aT rfl yG rfl
  ·(refine aR rfl rfl rfl ?_);( intro wq _ _ hgq;(repeat (refine aG rfl rfl ?_;intro vq hvq;try (obtain rfl:=hvq)));(refine aN ?_))
   refine hY (a:=2) rfl rfl (by omega) rfl ?_
   repeat (refine TL.nil ?_)
   exact aT rfl yG rfl
  iterate 2
   ·(refine aR rfl rfl rfl ?_);( intro wq _ _ hgq;(repeat (refine aG rfl rfl ?_;intro vq hvq;try (obtain rfl:=hvq)));(refine aN ?_))
    repeat (first|(refine bL ?_;refine bT rfl rfl (by omega) rfl ?_)|refine TL.nil ?_|(refine eX ?_;refine eP rfl (jU rfl) (cA _) (by omega) (by omega) (by omega) rfl rfl ?_))
    exact aT rfl yG rfl
 intro w7 lo7 hi7 hg7 _ _
 ((repeat (refine aG rfl rfl ?_;intro vq hvq;try (obtain rfl:=hvq)));(refine aN ?_))
 have hs7:=lD (o:=256) (m:=256) (c:=256) (hb76.grow hg7) (by omega) (by omega) (by decide)
 rw [List.take_of_length_le (by rw [List.length_drop];omega)] at hs7
 refine aL 124 ?_
 refine aI rfl (dwrite_c (hd6.grow hg7) (2*n+1) (by omega) _ _ 256 _ hs7) rfl ?_
 rintro v8 w8 ⟨hd8,hu8⟩
 have hb8:=eH hu8 (hb6.grow hg7) h.ne.2.1
 have hus8:=eH hu8 (hus6.grow hg7) h.ne.2.2.1
 have hbs8:ButS L.S w w8:=hbs6.trans ((ButS.grow hg7).trans (ButS.but hu8 (.inr (.inl rfl))))
 clear hs7 hu8 hbs6 hb76 hb6 hus6
 have hdv:=used_div h.ok hlt
 repeat (first|(refine aB ?_;refine TL.pure rfl rfl ?_)|refine TL.nil ?_|refine aA ?_|refine aJ ?_|refine aC ?_)
 refine aL 92 ?_
 refine aI rfl (mark_c hb8 hus8 rfl h.ok.w64 n hdv (by have:=h.ok.wl;omega)) rfl ?_
 rintro v9 w9 ⟨hus9,hu9⟩
 have hb9:=eH hu9 hb8 h.ne.1
 have hbs9:ButS L.S w w9:=hbs8.trans (ButS.but hu9 (.inl rfl))
 have hd9:DkAt w9 L.d L.s L.m (2*g.count) _:=hd8.keep (hu9.block _ hd8.blk.lt h.ne.2.2.2.1) (hu9.block _ hd8.map.lt (Ne.symm h.ne.2.2.1))
 repeat (first|(refine aB ?_;refine TL.pure rfl rfl ?_)|(refine aD ?_;refine TL.pure rfl rfl ?_)|refine TL.nil ?_|refine aA ?_|refine aJ ?_|refine aC ?_|refine bE ?_)
 refine jM rfl rfl ⟨_,rfl,rfl,⟨?_,?_,hnew.ok,by rw [hnew.count];exact h.cnt,⟨_,by rw [hnew.count];exact hd9,?_⟩,?_,?_,h.ne⟩,hbs9⟩
 ·unfold pgc;rw [hnew.count,hgw,show (hU g.words n).length=g.words.length by simp [hU]];exact hb9
 ·rw [hgw];exact hus9
 ·intro k hk
  rw [hnew.used] at hk
  by_cases hkn:k=n
  ·subst hkn
   rw [hnew.body,show padB b=eF b from rfl,pageB_body k b (by omega),← hpg]
   constructor
   ·simp [upF]
   ·simp [upF]
  ·have hk2:dE g k=true:=by simpa [hkn] using hk
   rw [hnew.other k hkn]
   have h1:=hf k hk2
   constructor
   ·simp only [upF]
    rw [if_neg (by omega),if_neg (by omega)]
    exact h1.1
   ·simp only [upF]
    rw [if_neg (by omega),if_neg (by omega)]
    exact h1.2
 ·intro k x hx
  by_cases hkn:k=n
  ·subst hkn
   rw [hnew.body] at hx
   exact body_lt hbl x hx
  ·rw [hnew.other k hkn] at hx
   exact h.lt k x hx
 ·intro k hk
  rw [hnew.used] at hk
  by_cases hkn:k=n
  ·subst hkn
   rw [hnew.body];exact lY b (by omega)
  ·rw [hnew.other k hkn]
   exact h.bl k (by simpa [hkn] using hk)
end Go.Proofs.YtfpadnmdafiddaaGreatDoor
namespace Go.Proofs.YtfpadnmdafiddaaGreatDoor
open Go Go.RowKit Go.V
theorem bclone_c (F:Nat→Prop) (ad:Addr) (m c:Nat) (l:Bs) (w:World) (hs:Sl F w 1 (some ad) m c (cX l)) (hm:m≤100000) :
  Calls Tryz.prog 130 #[.slice (some ad) m c] w (Ret λ v w'=>w'.ownsRow w.heap.size 5 1 v m (cX l)∧Grow w w'):=by
 refine V.calls (args:=[_]) Tryz.func130 rfl Tryz.ntmps130 rfl rfl ?_
 repeat (first|(refine aB ?_;refine TL.pure rfl rfl ?_)|(refine aD ?_;refine TL.pure rfl rfl ?_)|refine TL.nil ?_|refine aA ?_|refine aJ ?_|refine aC ?_|refine TL.eqNil rfl rfl rfl ?_|(refine TL.isBuildS ?_;(refine lR rfl ?_;intro bk w' hg hbk hsz hsz'))|refine aE rfl ?_|refine aW ?_)
 refine kE rfl rfl (own_empty (base:=w.heap.size) hbk (by omega)) (hs.grow yG) (eD l) (by omega) (by omega) rfl ?_
 intro v w2 hown hg2
 repeat (first|(refine aD ?_;refine TL.pure rfl rfl ?_)|refine TL.nil ?_|refine aA ?_|refine bE ?_)
 exact cI rfl ⟨_,rfl,hown,yG⟩
theorem read_neg {w:World} {L:PL} {g:Pg} (h:PgAt w L g) :
  Calls Tryz.prog 50 #[.pointer (some ⟨L.p,0,none⟩),.int .i64 (-1)] w (Ret λ v w'=>v=.tuple #[.slice none 0 0,.int .i64 6]∧w=w'):=by
 refine V.calls (args:=[_,_]) Tryz.func50 rfl Tryz.ntmps50 rfl rfl ?_
 repeat (first|(refine aL 128 ?_;refine aI rfl (pcheck_neg h) rfl ?_;rintro _ _ ⟨rfl,rfl⟩)|(refine aB ?_;refine TL.pure rfl rfl ?_)|(refine aD ?_;refine TL.pure rfl rfl ?_)|refine TL.nil ?_|refine aA ?_|refine aJ ?_|refine aC ?_|(refine aH ?_;refine TL.pure rfl rfl ?_)|refine aM rfl ?_|refine bE ?_|refine bI ?_)
 exact jM rfl rfl ⟨_,rfl,rfl,rfl⟩
theorem same_bys:∀ (l l':Bs),l.length=l'.length→jV (cX l) (cX l')
 | [],[],_=>trivial
 | [],_::_,h=>by cases h
 | _::_,[],h=>by cases h
 | x::l,y::l',h=>⟨rfl,same_bys l l' (by simpa using h)⟩
def readB (p:Bs) (i:Nat):Bs:=p.take (256*i)++zs (512-256*i)
theorem readB_step (p:Bs) (hl:p.length=512) (i:Nat) (hi:i<2):((p.drop (256*i)).take 256).length=256∧jC (cX (readB p i)) (i*256) (cX ((p.drop (256*i)).take 256))=cX (readB p (i+1)):=by
 have e:((p.drop (256*i)).take 256).length=256:=by rw [List.length_take,List.length_drop,hl];omega
 have e2:(p.take (256*i)).length=i*256:=by rw [List.length_take,hl];omega
 refine ⟨e,?_⟩
 rw [putAt_bys (by rw [e];simp only [readB,List.length_append,dZ,e2];omega),e]
 have e3:(readB p i).take (i*256)=p.take (256*i):=List.take_left' e2
 have e4:(readB p i).drop (i*256+256)=zs (512-256*(i+1)):=by
  unfold readB zs
  rw [List.drop_append,List.drop_eq_nil_of_le (by omega),List.nil_append,List.drop_replicate,e2]
  have e5:512-256*i-(i*256+256-i*256)=512-256*(i+1):=by omega
  rw [e5]
 rw [e3,e4,← List.take_add,show 256*i+256=256*(i+1) by omega]
 rfl
theorem pread_c {w:World} {L:PL} {g:Pg} (h:PgAt w L g) (n:Nat) (hn:n<4294967296) (hu:dE g n=true) :
  Calls Tryz.prog 50 #[.pointer (some ⟨L.p,0,none⟩),.int .i64 (n:Int)] w (Ret λ v w'=>∃ u,v=.tuple #[u,.int .i64 0]∧w'.ownsRow w.heap.size 5 1 u 500 (cX (g.body n))∧Grow w w'):=by
 have hc:=pcheck_c h n (by omega)
 rw [hu] at hc
 simp only [if_true] at hc
 have hlt:n<g.count:=by
  rcases Nat.lt_or_ge n g.count with h1|h1
  ·exact h1
  ·simp [dE,Nat.not_lt.2 h1] at hu
 have hcn:=h.cnt
 have hbl:=h.bl n hu
 have hlp:=length_pageB n (g.body n) (by omega)
 refine V.calls (args:=[_,_]) Tryz.func50 rfl Tryz.ntmps50 rfl rfl ?_
 repeat (first|(refine aL 128 ?_;refine aI rfl (hc) rfl ?_;rintro _ _ ⟨rfl,rfl⟩)|(refine bF ?_;refine iG 512 zero_page rfl ?_;intro b7 w1 hg1 hb7 q1 q2)|(refine aB ?_;refine TL.pure rfl rfl ?_)|(refine aD ?_;refine TL.pure rfl rfl ?_)|refine TL.nil ?_|refine aA ?_|refine aJ ?_|refine aC ?_|refine T.block ?_|(refine aH ?_;refine aQ rfl yD rfl ?_)|refine aE rfl ?_|refine aW ?_)
 have hpb:lX n (g.body n)=(lX n (g.body n)).take 12++g.body n:=by
  have e1:lX n (g.body n)=(shaB (fW n++eF (g.body n))).take 12++eF (g.body n):=rfl
  have e2:eF (g.body n)=g.body n:=by
   show g.body n++zs (500-(g.body n).length)=g.body n
   rw [hbl];exact List.append_nil _
  rw [e1,e2,List.take_left' (by rw [List.length_take,length_shaB];rfl)]
 obtain ⟨f,hd,hf⟩:=h.f
 obtain ⟨hf1,hf2⟩:=hf n hu
 have hpage:=λ w F a c hs=>page_c F n (by omega) a 500 c (g.body n) w hs (Nat.le_refl _) (h.lt n)
 obtain ⟨p,hp⟩:∃ p,p=lX n (g.body n):=⟨_,rfl⟩
 rw [← hp] at hf1 hf2 hlp hpb hpage
 have hl:=h.lts
 refine cU (S:=Nat) (λ i=>[(17,.int .i64 (i:Int)),(7,.pointer (some ⟨b7,0,none⟩)),(1,.int .i64 (n:Int)),(0,.pointer (some ⟨L.p,0,none⟩))]) (λ i w2=>i≤2∧Blk w2 b7 197 (cX (readB p i))∧Grow w w2) (λ i=>2-i) 0 ⟨rfl,rfl,rfl,rfl,trivial⟩ ⟨by omega,by simpa [readB] using hb7,hg1⟩ ?_
 clear hb7
 rintro i w2 ⟨hi,hb7,hg2⟩
 have hz2:=hg2.size
 have h2:=h.grow hg2
 have hb:=h2.blk
 unfold pgc at hb
 have hrl:(readB p i).length=512:=by simp [readB,dZ,hlp];omega
 by_cases hi2:i<2
 ·obtain ⟨hvl,hst⟩:=readB_step p hlp i hi2
  have hvs:f (2*n+i)=some (.agg (cX ((p.drop (256*i)).take 256)).toArray):=by
   obtain rfl|rfl:i=0∨i=1:=by omega
   ·exact hf1
   ·have:(p.drop (256*1)).take 256=p.drop 256:=List.take_of_length_le (by rw [List.length_drop,hlp];omega)
    rw [this];exact hf2
  generalize (p.drop (256*i)).take 256=vs at *
  repeat (first|(refine hE ?_;refine hY (a:=2) rfl rfl (by omega) rfl ?_)|(refine aB ?_;refine TL.pure rfl rfl ?_)|(refine aD ?_;refine TL.pure rfl rfl ?_)|refine aK rfl yM rfl ?_|refine aF rfl rfl ?_|(refine bL ?_;refine bT rfl rfl (by omega) rfl ?_)|refine TL.nil ?_|refine aA ?_|refine aJ ?_|refine aC ?_|refine T.block ?_|(refine aH ?_;refine aZ rfl yD rfl ?_)|refine bM rfl rfl ?_|refine aM rfl ?_|refine aW ?_)
  refine aL 129 ?_
  refine aI rfl (dread_c (hd.grow hg2) (2*n+i) (by omega) vs hvs hvl) rfl ?_
  rintro _ w3 ⟨bs,rfl,hbs1,hbs2,hg3⟩
  repeat (first|(refine hE ?_;refine hY (a:=i) (b:=256) rfl rfl (by omega) rfl ?_)|(refine hE ?_;refine hY (a:=i+1) (b:=256) rfl rfl (by omega) rfl ?_)|(refine aB ?_;refine TL.pure rfl rfl ?_)|(refine aD ?_;refine TL.pure rfl rfl ?_)|(refine bL ?_;refine bT rfl rfl (by omega) rfl ?_)|refine TL.nil ?_|refine aA ?_|refine aC ?_|(refine eX ?_;refine eP rfl (jU rfl) (jU rfl) (by omega) (by omega) (by omega) rfl rfl ?_)|refine TL.pure rfl rfl ?_)
  refine TL.copyB (b:=b7) (o:=0+i*256*1) (m:=(i+1)*256-i*256) rfl rfl (hb7.grow hg3) hbs2 (eD vs) (by rw [dA,hrl];omega) rfl ?_
  rw [show 0+i*256*1=i*256 by omega,show min 256 ((i+1)*256-i*256)=256 by omega,List.take_of_length_le (by rw [dA];omega),hst]
  intro w4 hu4 hb74 _
  repeat (first|(refine aB ?_;refine TL.pure rfl rfl ?_)|(refine bL ?_;refine bT rfl rfl (by omega) rfl ?_)|refine TL.nil ?_|refine aA ?_|refine aC ?_|refine aS ?_)
  exact bG (i+1) ⟨rfl,rfl,rfl,rfl,trivial⟩ ⟨by omega,hb74,aX hu4 (by omega) (hg2.trans hg3)⟩ (by omega)
 obtain rfl:i=2:=by omega
 have hfin:readB p 2=p:=by
  simp only [readB]
  rw [List.take_of_length_le (by omega)]
  exact List.append_nil _
 rw [hfin] at hb7
 clear hb hrl hfin
 repeat (first|refine TL.nil ?_|refine aA ?_|refine aJ ?_|refine aC ?_|(refine aH ?_;refine aQ rfl yD rfl ?_)|refine aE rfl ?_|refine cV ?_|refine bN ?_|refine bP ?_|refine bO ?_)
 have hs2:=lD (o:=12) (m:=500) (c:=500) hb7 (by omega) (Nat.le_refl _) (by decide)
 have hdr:(p.drop 12).take 500=g.body n:=by
  rw [List.take_of_length_le (by rw [List.length_drop];omega)]
  have e12:(p.take 12).length=12:=by rw [List.length_take,hlp];rfl
  have:=congrArg (List.drop 12) hpb
  rw [List.drop_left' e12] at this
  exact this
 rw [hdr] at hs2
 apply T.any 4 [is (.agg (cX p).toArray),is (.int .i64 (n:Int)),is (.slice (some ⟨b7,12,none⟩) 500 500),is (.agg (cX p).toArray)]
 ·rfl
 ·repeat' (first|exact bW|refine bU ?_ ?_)
  ·(refine aR rfl rfl rfl ?_);( intro wq _ _ hgq;(repeat (refine aG rfl rfl ?_;intro vq hvq;try (obtain rfl:=hvq)));(refine aN ?_))
   refine TL.loadBy rfl (hb7.grow hgq) hlp rfl ?_
   repeat (refine TL.nil ?_)
   exact aT rfl yG rfl
  iterate 2
   ·(refine aR rfl rfl rfl ?_);( intro wq _ _ hgq;(repeat (refine aG rfl rfl ?_;intro vq hvq;try (obtain rfl:=hvq)));(refine aN ?_))
    repeat (first|(refine aB ?_;refine TL.pure rfl rfl ?_)|refine TL.nil ?_|(refine eX ?_;refine eP rfl (jU rfl) (cA _) (by omega) (by omega) (by omega) rfl rfl ?_))
    exact aT rfl yG rfl
  ·(refine aR rfl rfl rfl ?_);( intro wq _ _ hgq;(repeat (refine aG rfl rfl ?_;intro vq hvq;try (obtain rfl:=hvq)));(refine aN ?_))
   refine aL 123 ?_
   refine aI rfl (hpage _ _ _ _ (hs2.grow hgq)) rfl ?_
   rintro _ w4 ⟨rfl,hg4⟩
   repeat (refine TL.nil ?_)
   exact aT rfl yG rfl
 intro w5 lo5 hi5 hg5 _ _
 ((repeat (refine aG rfl rfl ?_;intro vq hvq;try (obtain rfl:=hvq)));(refine aN ?_))
 refine TL.neArr true rfl rfl rfl (same_bys p p rfl) (by rw [dA,hlp]) (by simp) rfl ?_
 repeat (first|refine TL.nil ?_|refine aA ?_|refine aJ ?_|refine aC ?_|(refine eX ?_;refine eP rfl (jU rfl) (cA _) (by omega) (by omega) (by omega) rfl rfl ?_)|refine aE rfl ?_|refine aW ?_)
 refine aL 130 ?_
 refine aI rfl (bclone_c _ _ 500 500 (g.body n) _ (hs2.grow hg5) (by omega)) rfl ?_
 rintro v w6 ⟨hown,hg6⟩
 have hgw:Grow w w6:=(hg2.trans hg5).trans hg6
 have:=hg5.size
 have hz2:=hg2.size
 repeat (first|(refine aD ?_;refine TL.pure rfl rfl ?_)|refine TL.nil ?_|refine aA ?_|refine bE ?_)
 exact jM rfl rfl ⟨_,rfl,v,rfl,fI hown (by omega),hgw⟩
end Go.Proofs.YtfpadnmdafiddaaGreatDoor
