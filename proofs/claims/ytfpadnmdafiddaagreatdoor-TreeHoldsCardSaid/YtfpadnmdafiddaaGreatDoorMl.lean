import Derived.Test.YtfpadnmdafiddaaGreatDoorMe
import Derived.Test.YtfpadnmdafiddaaGreatDoorMk
import Derived.DeepKeys4
import Derived.Maps.Keyed
import Derived.Carry
import Derived.Laws.OwnMore
import Derived.Test.YtfpadnmdafiddaaGreatDoorMc
set_option linter.all false
set_option maxHeartbeats 16000000
set_option maxRecDepth 100000
namespace Go.V
open Go Go.RowKit
section
variable [Rn]
variable {P:Program} {n:Nat} {e:dQ} {w:World} {Q:dS} {ops:Array Oper} {rest:List Oper} {d:Nat} {ty:TypeId} {pos:String} {aft:Array Edge}
end
structure But (b:Nat) (w w':World):Prop where
 os:w'.os=w.os
 tape:w'.tape=w.tape
 output:w'.output=w.output
 size:w.heap.size≤w'.heap.size
 block:∀ k,k<w.heap.size→k≠b→w'.heap[k]? = w.heap[k]?
theorem But.refl (b:Nat) (w:World):But b w w:=⟨rfl,rfl,rfl,Nat.le_refl _,λ _ _ _=>rfl⟩
theorem lO {b:Nat} {w0 w w':World} (g:Grow w w') (h:But b w0 w):But b w0 w' :=
 ⟨g.1.os.trans h.os,g.1.tape.trans h.tape,g.1.output.trans h.output,Nat.le_trans h.size g.2,λ k hk hb=>(g.block k (Nat.lt_of_lt_of_le hk h.size)).trans (h.block k hk hb)⟩
theorem but_upd {b:Nat} {w0 w w':World} (u:Upd b w w') (h:But b w0 w):But b w0 w' :=
 ⟨u.os.trans h.os,u.tape.trans h.tape,u.output.trans h.output,Nat.le_trans h.size (Nat.le_of_eq u.size.symm),λ k hk hb=>(u.block k hb).trans (h.block k hk hb)⟩
theorem but_but {b:Nat} {w0 w w':World} (u:But b w w') (h:But b w0 w):But b w0 w' :=
 ⟨u.os.trans h.os,u.tape.trans h.tape,u.output.trans h.output,Nat.le_trans h.size u.size,λ k hk hb=>(u.block k (Nat.lt_of_lt_of_le hk h.size) hb).trans (h.block k hk hb)⟩
theorem eH {b k:Nat} {w w':World} {t:TypeId} {cs:List Value} (u:But b w w') (h:Blk w k t cs) (hk:k≠b):Blk w' k t cs:=by
 have hl:=h.lt
 unfold Blk at *
 rw [u.block k hl hk];exact h
theorem lK {b:Nat} {w0 w w':World} (u:But b w w') (hb:w0.heap.size≤b) (g:Grow w0 w):Grow w0 w':=Grow.mk
 ⟨u.os.trans g.1.os,u.tape.trans g.1.tape,u.output.trans g.1.output,Nat.le_trans g.2 u.size,λ k hk=>(u.block k (Nat.lt_of_lt_of_le hk g.2) (by omega)).trans (g.1.block k hk)⟩
end Go.V
namespace Go.V
open Go Go.RowKit
section
variable [Rn]
variable {P:Program} {n:Nat} {e:dQ} {w:World} {Q:dS} {ops:Array Oper} {rest:List Oper} {d:Nat} {ty:TypeId} {pos:String} {aft:Array Edge}
theorem append_where {t ty e:TypeId} {i:TypeInfo} {z:Value} {base size bytes:Nat} (ht:P.underlying t=some (.slice e)) (hi:P.info? e=some i) (hz:i.zero=some z) (hsize:i.size=size) (hby:i.bytes=bytes)
  {v:Value} {k:Nat} {xs:List Value} (hown:w.ownsRow base e size v k xs) {a:Addr} {m c:Nat} {news:List Value} (hl:news.length=m*size) (hnews:∀ j u,news[j]? = some u→w.cell? (a.add j)=some u) (h1:∀ u∈news,u.oneCell'=true)
  (h63:k+m≤maxLen) (hbytes:(k+m)*bytes≤140737488355328) {v':Value} {w':World} (hrun:(Builtin.append_ #[t,t] ty #[v,.slice (some a) m c]).run P w=.ok v' w') :
  v'.ownBlock=v.ownBlock∨∀ j,v'.ownBlock=some j→w.heap.size≤j:=by
 subst hsize
 subst hby
 have hs63:k+m≤9223372036854775807:=by simp only [maxLen] at h63;omega
 rcases hown.2 with ⟨rfl,rfl⟩|⟨g,cap,cur,rfl,hbg,hg,hnc,hcm,hcs,htake⟩
 ·by_cases hm:m=0
  ·subst hm
   have hn:news=[]:=List.eq_nil_of_length_eq_zero (by simpa using hl)
   subst hn
   left
   simp [Builtin.append_,run_underlying ht,sizeOf,typeInfo,hi,Builtin.lenOf,Builtin.firstCells,loadCells,loadCellsFrom] at hrun
   rw [← hrun.1]
  ·rw [run_append_nil (P:=P) w t ty e i z ht hi hz a m c news hl hnews (by omega) (by omega) (by simp only [Nat.zero_add] at hbytes;omega)] at hrun
   cases hrun
   right
   intro j hj
   cases hj
   exact Nat.le_refl _
 ·by_cases hroom:k+m≤cap
  ·rw [run_append_room (P:=P) w t ty e i ht hi g k cap cur hg a m c news hl hnews h1 hroom (by rw [hl,hcs,← Nat.add_mul];exact Nat.mul_le_mul_right _ hroom)] at hrun
   cases hrun
   exact .inl rfl
  ·rw [run_append_grow (P:=P) w t ty e i z ht hi hz ⟨g,0,none⟩ k cap xs hown.1 (hown.cells (g:=g) rfl) a m c news hl hnews (by omega) (by omega) (growslice_fits (by omega) hbytes)] at hrun
   cases hrun
   right
   intro j hj
   cases hj
   exact Nat.le_refl _
theorem iF {t elem size bytes:Nat} {x y:Operand} {base m k0 c:Nat} {v:Value} {xs news:List Value} {F:Nat→Prop} {a:Option Addr} [ht:SliceTy P t elem size bytes]
  (hx:val e x=some v) (hy:val e y=some (.slice a m c)) (hown:w.ownsRow base elem size v k0 xs) (hs:Sl F w size a m c news) (h1:∀ u∈news,u.oneCell'=true)
  (h63:k0+m≤maxLen) (hbytes:(k0+m)*bytes≤140737488355328) (hbase:base≤w.heap.size) (hd:Nat.blt d n=true)
  (k:∀ v' w',w'.ownsRow base elem size v' (k0+m) (xs++news)→w.grownBy w' v.ownBlock→(∀ G:Nat→Prop,Carry (λ j=>G j∧v.ownBlock≠some j) w (λ j=>G j∧v'.ownBlock≠some j) w')→TL P n ops rest ((d,v')::e) w' Q) :
  TL P n ops (⟨some d,.call ⟨.builtin .append,#[x,y],#[t,t]⟩,ty,pos,aft,none⟩::rest) e w Q:=by
 obtain ⟨i,z,hi,hsz,hby,hz,hzs,hne⟩:=ht.info
 have car:∀ {v':Value} {w':World},w.grownBy w' v.ownBlock→(v'.ownBlock=v.ownBlock∨∀ j,v'.ownBlock=some j→w.heap.size≤j)→∀ G:Nat→Prop,Carry (λ j=>G j∧v.ownBlock≠some j) w (λ j=>G j∧v'.ownBlock≠some j) w':=by
  intro v' w' g hnew G
  refine ⟨g.size,λ j ⟨h1,h2⟩ hl=>⟨⟨h1,λ he=>?_⟩,g.block j hl (λ e=>h2 e.symm)⟩⟩
  rcases hnew with h|h
  ·exact h2 (h▸he)
  ·have:=h j he;omega
 cases a with
 | none =>
  have hm:=hs.cap
  have hc:=hs.nil rfl
  have hn:m=0:=by omega
  subst hn
  subst hc
  have hnews:news=[]:=List.eq_nil_of_length_eq_zero (by simpa using hs.len)
  subst hnews
  have hrun:=run_append_owned_none (P:=P) (w:=w) base t ty elem i size ht.und hi v k0 xs hown
  refine TL.run (v:=v) (w':=w) (λ r hr=>?_) hd (k v w (by simpa using hown) (World.grownBy.refl _ _) (car (World.grownBy.refl _ _) (.inl rfl)))
  simp [execOp,resolve,invoke,builtin,hr.eval hx,hr.eval hy,hrun]
 | some ad =>
  obtain ⟨v',w',hrun,h2,h3,h4⟩:=run_append_own (P:=P) w base t ty elem i z size bytes ht.und hi hz hsz hby hzs (Nat.pos_of_ne_zero hne) v k0 xs hown ad m c news hs.len (hs.row.cell_add rfl) h1 h63 hbytes hbase
  have hw:=append_where ht.und hi hz hsz hby hown hs.len (hs.row.cell_add rfl) h1 h63 hbytes hrun
  refine TL.run (v:=v') (w':=w') (λ r hr=>?_) hd (k v' w' h2 h3 (car h3 hw))
  simp [execOp,resolve,invoke,builtin,hr.eval hx,hr.eval hy,hrun]
end
end Go.V
namespace Go.V
open Go Go.RowKit Go.ChangeShapes Go.WideShapes Go.MapKept Go.ChangeMaps
structure Ordd (l:List MapEntry) (c:Nat):Prop where
 keys:l.Pairwise λ x y=>x.key≠y.key
 lt:∀ x∈l,x.born<c
 born:l.Pairwise λ x y=>x.born<y.born
def MapF (w:World) (m:Nat) (f:Nat→Option Value):Prop:=∃ es clock,w.heap[m]? = some (.map es clock)∧(∀ x∈es.toList,∃ n:Nat,n<9223372036854775808∧x.key=.int .i64 (n:Int)∧f n=some x.val) ∧
 (∀ n v,f n=some v→∃ x∈es.toList,x.key=.int .i64 (n:Int))∧Ordd es.toList clock
def mapB (P:Program) (t kt el:TypeId):Bool:=match P.underlying t with|some (.map k e)=>Nat.beq k kt&&Nat.beq e el|_=>false
class MapTy (P:Program) (t:TypeId) (kt el:outParam TypeId):Prop where
 h:mapB P t kt el=true
theorem MapTy.und {P:Program} {t kt el:TypeId} (h:MapTy P t kt el):P.underlying t=some (.map kt el):=by
 have h:=h.h
 unfold mapB at h
 split at h
 ·rename_i k e hu
  simp only [Bool.and_eq_true] at h
  rw [hu,Nat.eq_of_beq_eq_true h.1,Nat.eq_of_beq_eq_true h.2]
 ·cases h
section
variable [Rn]
variable {P:Program} {n:Nat} {e:dQ} {w w':World} {Q:dS} {ops:Array Oper} {rest:List Oper} {d:Nat} {ty:TypeId} {pos:String} {aft:Array Edge}
theorem MapF.lt {m:Nat} {f:Nat→Option Value} (h:MapF w m f):m<w.heap.size:=by
 obtain ⟨es,c,h1,_⟩:=h
 exact (Array.getElem?_eq_some_iff.1 h1).1
theorem MapF.keep {m:Nat} {f:Nat→Option Value} (h:MapF w m f) (hk:w'.heap[m]? = w.heap[m]?):MapF w' m f:=by
 obtain ⟨es,c,h1,h2⟩:=h
 exact ⟨es,c,by rw [hk];exact h1,h2⟩
theorem MapF.grow {m:Nat} {f:Nat→Option Value} (g:Grow w w') (h:MapF w m f):MapF w' m f:=h.keep (g.block m h.lt)
theorem MapF.upd {m c:Nat} {f:Nat→Option Value} (u:Upd c w w') (hm:m≠c) (h:MapF w m f):MapF w' m f:=h.keep (u.block m hm)
theorem mA {kt:TypeId} (ht:IntTy P kt .i64) {k:Nat} (hk:k<9223372036854775808):keyOf P kt (.int .i64 (k:Int))=some (.int .i64 (k:Int)) :=
 Maps.keyOf_int_mk ht.und (by simp [Go.Lit.wf,IntKind.min,IntKind.max,IntKind.bits,IntKind.signed];omega)
theorem TL.makeMapF {t:TypeId} (hd:Nat.blt d n=true)
  (k:∀ b w',Grow w w'→MapF w' b (λ _=>none)→w.heap.size=b→w'.heap.size=b+1→TL P n ops rest ((d,.map (some b))::e) w' Q) :
  TL P n ops (⟨some d,.makeMap t none,ty,pos,aft,none⟩::rest) e w Q :=
 TL.run (v:=.map (some w.heap.size)) (w':=w.alloc (.map #[] 0)) (λ r hr=>by simp [execOp,run_makeMap]) hd
  (k _ _ (jQ _) ⟨#[],0,by show (w.heap.push _)[w.heap.size]? = _;simp,by simp,by simp,⟨List.Pairwise.nil,by simp,List.Pairwise.nil⟩⟩ rfl (by simp))
theorem MapF.find {kt m:Nat} (ht:IntTy P kt .i64) {f:Nat→Option Value} (h:MapF w m f) {k:Nat} (hk:k<9223372036854775808) :
  ∃ es c,w.heap[m]? = some (.map es c)∧(match f k with
   | none=>(Instr.findKey kt (.int .i64 (k:Int)) es.toList).run P w=.ok none w∧∀ x∈es.toList,x.key≠.int .i64 (k:Int)
   | some v=>∃ j e0,(Instr.findKey kt (.int .i64 (k:Int)) es.toList).run P w=.ok (some (j,v)) w∧es.toList[j]? = some e0∧e0.key=.int .i64 (k:Int)) ∧
   (∀ x∈es.toList,∃ n:Nat,n<9223372036854775808∧x.key=.int .i64 (n:Int)∧f n=some x.val)∧(∀ n v,f n=some v→∃ x∈es.toList,x.key=.int .i64 (n:Int))∧Ordd es.toList c:=by
 obtain ⟨es,c,h1,h2,h3,h5⟩:=h
 refine ⟨es,c,h1,?_,h2,h3,h5⟩
 have hkeys:∀ u∈es.toList,∃ l,keyOf P kt u.key=some l:=λ u hu=>by
  obtain ⟨n,hn,e1,_⟩:=h2 u hu
  rw [e1]
  exact ⟨_,mA ht hn⟩
 rcases (Maps.int_keyed ht.und).find w (mA ht hk) es.toList hkeys with ⟨g1,g2⟩|⟨j,e0,g1,g2,g3⟩
 ·cases hf:f k with
  | none=>exact ⟨g1,g2⟩
  | some v=>obtain ⟨x,hx,e⟩:=h3 k v hf;exact absurd e (g2 x hx)
 ·obtain ⟨n,hn,e1,e2⟩:=h2 e0 (List.mem_of_getElem? g2)
  rw [g3] at e1
  have hnk:n=k:=by simp only [Value.int.injEq,true_and] at e1;omega
  subst hnk
  rw [e2]
  exact ⟨j,e0,g1,g2,g3⟩
theorem TL.lookupYes {t kt el m k:Nat} {x y:Operand} {f:Nat→Option Value} {v:Value} [ht:MapTy P t kt el] [hk:IntTy P kt .i64] (hx:val e x=some (.map (some m))) (hy:val e y=some (.int .i64 (k:Int))) (hm:MapF w m f) (hf:f k=some v) (hkl:k<9223372036854775808) (hd:Nat.blt d n=true)
  (kk:TL P n ops rest ((d,.tuple #[v,.bool true])::e) w Q):TL P n ops (⟨some d,.lookup t x y true,ty,pos,aft,none⟩::rest) e w Q :=
 TL.run (λ r hr=>by
  obtain ⟨es,c,h1,h2,h3,h4,h5⟩:=hm.find hk hkl
  rw [hf] at h2
  obtain ⟨j,e0,g1,g2,g3⟩:=h2
  simp [execOp,hr.eval hx,hr.eval hy,Instr.lookup,run_underlying ht.und,MapKept.run_getObj_map h1,(Maps.int_keyed hk.und).check w _ (mA hk hkl),g1,Result.andThen]) hd kk
theorem TL.lookupNo {t kt el m k:Nat} {x y:Operand} {f:Nat→Option Value} {z:Value} [ht:MapTy P t kt el] [hk:IntTy P kt .i64] [hz:Zero P el z] (hx:val e x=some (.map (some m))) (hy:val e y=some (.int .i64 (k:Int))) (hm:MapF w m f) (hf:f k=none) (hkl:k<9223372036854775808) (hd:Nat.blt d n=true)
  (kk:TL P n ops rest ((d,.tuple #[z,.bool false])::e) w Q):TL P n ops (⟨some d,.lookup t x y true,ty,pos,aft,none⟩::rest) e w Q :=
 TL.run (λ r hr=>by
  obtain ⟨es,c,h1,h2,h3,h4,h5⟩:=hm.find hk hkl
  rw [hf] at h2
  obtain ⟨g1,g2⟩:=h2
  simp [execOp,hr.eval hx,hr.eval hy,Instr.lookup,run_underlying ht.und,MapKept.run_getObj_map h1,(Maps.int_keyed hk.und).check w _ (mA hk hkl),g1,hz.run,Result.andThen]) hd kk
theorem TL.lookup1 {t kt el m k:Nat} {x y:Operand} {f:Nat→Option Value} {v:Value} [ht:MapTy P t kt el] [hk:IntTy P kt .i64] (hx:val e x=some (.map (some m))) (hy:val e y=some (.int .i64 (k:Int))) (hm:MapF w m f) (hf:f k=some v) (hkl:k<9223372036854775808) (hd:Nat.blt d n=true)
  (kk:TL P n ops rest ((d,v)::e) w Q):TL P n ops (⟨some d,.lookup t x y false,ty,pos,aft,none⟩::rest) e w Q :=
 TL.run (λ r hr=>by
  obtain ⟨es,c,h1,h2,h3,h4,h5⟩:=hm.find hk hkl
  rw [hf] at h2
  obtain ⟨j,e0,g1,g2,g3⟩:=h2
  simp [execOp,hr.eval hx,hr.eval hy,Instr.lookup,run_underlying ht.und,MapKept.run_getObj_map h1,(Maps.int_keyed hk.und).check w _ (mA hk hkl),g1,Result.andThen]) hd kk
def upF (f:Nat→Option Value) (k:Nat) (u:Value):Nat→Option Value:=λ j=>if j=k then some u else f j
theorem run_mapUpdate {t kt el m k:Nat} {f:Nat→Option Value} {u:Value} (ht:MapTy P t kt el) (hk:IntTy P kt .i64) (hm:MapF w m f) (hkl:k<9223372036854775808) :
  ∃ w',(Instr.mapUpdate t (.map (some m)) (.int .i64 (k:Int)) u).run P w=.ok () w'∧Upd m w w'∧MapF w' m (upF f k u):=by
 obtain ⟨es,c,h1,h2,h3,h4,h5⟩:=hm.find hk hkl
 have hlt:=(Array.getElem?_eq_some_iff.1 h1).1
 cases hf:f k with
 | none =>
  rw [hf] at h2
  obtain ⟨g1,g2⟩:=h2
  refine ⟨setBlock w m (.map (es.push ⟨.int .i64 (k:Int),u,c⟩) (c+1)),?_,⟨rfl,rfl,rfl,by simp [setBlock],λ i hi=>heap_setBlock_other h1 _ (λ e=>hi e)⟩,_,_,heap_setBlock_same h1 _,λ x hx=>?_,λ j v hj=>?_,?_⟩
  ·simp [Instr.mapUpdate,run_underlying ht.und,MapKept.run_getObj_map h1,(Maps.int_keyed hk.und).check w _ (mA hk hkl),g1,MapKept.run_setObj_map _ h1,Result.andThen,setBlock]
  ·simp only [Array.toList_push,List.mem_append,List.mem_singleton] at hx
   rcases hx with hx|rfl
   ·obtain ⟨i,hi,e1,e2⟩:=h3 x hx
    refine ⟨i,hi,e1,?_⟩
    unfold upF
    rw [if_neg (λ e=>g2 x hx (by rw [e1,e])),e2]
   ·exact ⟨k,hkl,rfl,by simp [upF]⟩
  ·unfold upF at hj
   split at hj
   ·rename_i he
    subst he
    exact ⟨⟨.int .i64 (j:Int),u,c⟩,by simp,rfl⟩
   ·obtain ⟨x,hx,e1⟩:=h4 j v hj
    exact ⟨x,by simp [hx],e1⟩
  ·rw [Array.toList_push]
   refine ⟨List.pairwise_append.2 ⟨h5.keys,by simp,λ x hx y hy=>by simp only [List.mem_singleton] at hy;subst hy;exact g2 x hx⟩,λ x hx=>?_,List.pairwise_append.2 ⟨h5.born,by simp,λ x hx y hy=>by simp only [List.mem_singleton] at hy;subst hy;exact h5.lt x hx⟩⟩
   simp only [List.mem_append,List.mem_singleton] at hx
   rcases hx with hx|rfl
   ·have:=h5.lt x hx;omega
   ·exact Nat.lt_succ_self _
 | some v0 =>
  rw [hf] at h2
  obtain ⟨j,e0,g1,g2,g3⟩:=h2
  have g2':es[j]? = some e0:=by simpa using g2
  refine ⟨setBlock w m (.map (es.modify j λ e=>{ e with key:=.int .i64 (k:Int),val:=u }) c),?_,⟨rfl,rfl,rfl,by simp [setBlock],λ i hi=>heap_setBlock_other h1 _ (λ e=>hi e)⟩,_,_,heap_setBlock_same h1 _,λ x hx=>?_,λ i v hi=>?_,?_⟩
  ·simp [Instr.mapUpdate,run_underlying ht.und,MapKept.run_getObj_map h1,(Maps.int_keyed hk.und).check w _ (mA hk hkl),g1,g2',g3,(Maps.int_keyed hk.und).stays w (mA hk hkl),MapKept.run_setObj_map _ h1,Result.andThen,setBlock]
  ·obtain ⟨i,hi,rfl⟩:=List.mem_iff_getElem.1 hx
   have hi':i<es.size:=by simpa using hi
   have ei:(es.modify j λ e=>{ e with key:=.int .i64 (k:Int),val:=u }).toList[i]=if j=i then { es[i] with key:=.int .i64 (k:Int),val:=u } else es[i]:=by
    simp [List.getElem_modify]
   rw [ei]
   by_cases hji:j=i
   ·rw [if_pos hji]
    exact ⟨k,hkl,rfl,by simp [upF]⟩
   ·rw [if_neg hji]
    obtain ⟨n,hn,e1,e2⟩:=h3 es[i] (by simp)
    refine ⟨n,hn,e1,?_⟩
    unfold upF
    rw [if_neg ?_,e2]
    intro e
    subst e
    have hj':=List.getElem?_eq_some_iff.1 g2
    obtain ⟨hjl,hje⟩:=hj'
    have hp:=List.pairwise_iff_getElem.1 h5.keys
    have hil:i<es.toList.length:=by simpa using hi'
    have ek:es.toList[i].key=e0.key:=by rw [g3];simpa using e1
    rcases Nat.lt_or_gt_of_ne hji with h|h
    ·exact hp j i hjl hil h (by rw [hje,ek])
    ·exact hp i j hil hjl h (by rw [hje,ek])
  ·have hmem:∀ x∈es.toList,∃ y∈(es.modify j λ e=>{ e with key:=.int .i64 (k:Int),val:=u }).toList,y.key=x.key:=by
    intro x hx
    obtain ⟨i,hi,rfl⟩:=List.mem_iff_getElem.1 hx
    have hi':i<es.size:=by simpa using hi
    refine ⟨(es.modify j λ e=>{ e with key:=.int .i64 (k:Int),val:=u }).toList[i]'(by simpa using hi'),List.getElem_mem _,?_⟩
    have ei:(es.modify j λ e=>{ e with key:=.int .i64 (k:Int),val:=u }).toList[i]'(by simpa using hi')=if j=i then { es[i] with key:=.int .i64 (k:Int),val:=u } else es[i]:=by
     simp [List.getElem_modify]
    rw [ei]
    by_cases hji:j=i
    ·rw [if_pos hji]
     subst hji
     have:=(List.getElem?_eq_some_iff.1 g2).2
     rw [this,g3]
    ·rw [if_neg hji];simp
   unfold upF at hi
   split at hi
   ·rename_i he
    obtain ⟨y,hy,e1⟩:=hmem e0 (List.mem_of_getElem? g2)
    exact ⟨y,hy,by rw [e1,g3,he]⟩
   ·obtain ⟨x,hx,e1⟩:=h4 i v hi
    obtain ⟨y,hy,e2⟩:=hmem x hx
    exact ⟨y,hy,by rw [e2,e1]⟩
  ·have hkeys:(es.modify j λ e=>{ e with key:=.int .i64 (k:Int),val:=u }).toList.map (·.key)=es.toList.map (·.key):=by
    apply List.ext_getElem
    ·simp
    ·intro i h1' h2'
     have hi':i<es.size:=by simpa using h2'
     simp only [List.getElem_map]
     have ei:(es.modify j λ e=>{ e with key:=.int .i64 (k:Int),val:=u }).toList[i]'(by simpa using hi')=if j=i then { es[i] with key:=.int .i64 (k:Int),val:=u } else es[i]:=by
      simp [List.getElem_modify]
     rw [ei]
     by_cases hji:j=i
     ·rw [if_pos hji]
      subst hji
      have:=(List.getElem?_eq_some_iff.1 g2).2
      rw [this,g3]
     ·rw [if_neg hji];simp
   have h6:(es.toList.map (·.key)).Pairwise (·≠·):=List.pairwise_map.2 h5.keys
   rw [← hkeys] at h6
   have hborn:(es.modify j λ e=>{ e with key:=.int .i64 (k:Int),val:=u }).toList.map (·.born)=es.toList.map (·.born):=by
    apply List.ext_getElem
    ·simp
    ·intro i h1' h2'
     have hi':i<es.size:=by simpa using h2'
     simp only [List.getElem_map]
     have ei:(es.modify j λ e=>{ e with key:=.int .i64 (k:Int),val:=u }).toList[i]'(by simpa using hi')=if j=i then { es[i] with key:=.int .i64 (k:Int),val:=u } else es[i]:=by
      simp [List.getElem_modify]
     rw [ei]
     by_cases hji:j=i
     ·rw [if_pos hji];simp
     ·rw [if_neg hji];simp
   have h7:(es.toList.map (·.born)).Pairwise (· < ·):=List.pairwise_map.2 h5.born
   rw [← hborn] at h7
   refine ⟨List.pairwise_map.1 h6,λ x hx=>?_,List.pairwise_map.1 h7⟩
   have hx2:=List.mem_map_of_mem (f:=λ x:MapEntry=>x.born) hx
   rw [hborn] at hx2
   obtain ⟨y,hy,e⟩:=List.mem_map.1 hx2
   rw [← e]
   exact h5.lt y hy
theorem TL.updateF {t kt el m k:Nat} {x y v:Operand} {f:Nat→Option Value} {u:Value} [ht:MapTy P t kt el] [hk:IntTy P kt .i64] (hx:val e x=some (.map (some m))) (hy:val e y=some (.int .i64 (k:Int))) (hv:val e v=some u) (hm:MapF w m f) (hkl:k<9223372036854775808)
  (kk:∀ w',Upd m w w'→MapF w' m (upF f k u)→TL P n ops rest e w' Q):TL P n ops (⟨none,.mapUpdate t x y v,ty,pos,aft,none⟩::rest) e w Q:=by
 obtain ⟨w',h1,h2,h3⟩:=run_mapUpdate (u:=u) ht hk hm hkl
 exact mE (w':=w') (λ r hr=>by simp [execOp,hr.eval hx,hr.eval hy,hr.eval hv,h1]) (kk w' h2 h3)
end
end Go.V
namespace Go.V
open Go Go.RowKit
section
variable [Rn]
variable {P:Program} {n:Nat} {e:dQ} {w w':World} {Q:dS} {ops:Array Oper} {rest:List Oper} {d:Nat} {ty:TypeId} {pos:String} {aft:Array Edge}
theorem TL.copyB {t t' elem bytes:Nat} {x y:Operand} {b o m c k c':Nat} {bt:TypeId} {a:Option Addr} {F:Nat→Prop} {cs news:List Value} [ht:SliceTy P t elem 1 bytes] (hx:val e x=some (.slice (some ⟨b,o,none⟩) m c)) (hy:val e y=some (.slice a k c'))
  (hb:Blk w b bt cs) (hs:Sl F w 1 a k c' news) (h1:∀ u∈news,u.oneCell'=true) (ho:o+min k m≤cs.length) (hd:Nat.blt d n=true)
  (kk:∀ w',Upd b w w'→Blk w' b bt (jC cs o (news.take (min k m)))→w'.heap.size=w.heap.size→TL P n ops rest ((d,.int .i64 ((min k m:Nat):Int))::e) w' Q) :
  TL P n ops (⟨some d,.call ⟨.builtin .copy,#[x,y],#[t,t']⟩,ty,pos,aft,none⟩::rest) e w Q:=by
 have hl:=hs.len
 rw [Nat.mul_one] at hl
 have hnl:(news.take (min k m)).length=min k m:=by rw [List.length_take,hl];omega
 obtain ⟨w',hst,hu,hbk⟩:=iV (P:=P) (t:=bt) (news.take (min k m)) o 0 cs w hb (by rw [hnl];omega) (λ u hu=>h1 u (List.mem_of_mem_take hu))
 have hfc:(Builtin.firstCells 1 (min k m) (.slice a k c')).run P w=.ok (news.take (min k m)).toArray w:=by
  cases a with
  | none =>
   have:=hs.nil rfl
   have:=hs.cap
   have h0:k=0:=by omega
   subst h0
   simp [Builtin.firstCells,loadCells,loadCellsFrom]
  | some ad =>
   have hcells:∀ j v,(news.take (min k m))[j]? = some v→w.cell? (ad.add j)=some v:=λ j v hj=>by
    rw [List.getElem?_take] at hj
    split at hj
    ·exact hs.row.cell_add rfl j v hj
    ·cases hj
   have:=lE (P:=P) (w:=w) (p:=ad) (min k m) 0 (news.take (min k m)) #[] hnl (by simpa using hcells)
   simp [Builtin.firstCells,loadCells,this]
 refine TL.run (v:=.int .i64 ((min k m:Nat):Int)) (w':=w') (λ r hr=>?_) hd (kk w' hu hbk hu.size)
 have hmin:Nat.min k m=min k m:=rfl
 simp [execOp,resolve,invoke,builtin,hr.eval hx,hr.eval hy,Builtin.copy_,run_underlying ht.und,Builtin.lenOf,ht.size,hmin,hfc,hst,goInt]
theorem TL.arrayAt {t len elem size:Nat} {x:Operand} {a:Option Addr} {m c:Nat} [ht:ArrTy P t len elem size] (hx:val e x=some (.slice a m c)) (hm:len≤m) (hd:Nat.blt d n=true)
  (k:TL P n ops rest ((d,.pointer a)::e) w Q):TL P n ops (⟨some d,.sliceToArrayPointer t x,ty,pos,aft,none⟩::rest) e w Q :=
 TL.run (λ r hr=>by simp [execOp,hr.eval hx,Instr.arrayAt,underlying,ht.und.1,Nat.not_lt.2 hm]) hd k
theorem TL.makeAll {t elem size bytes c:Nat} {x y:Operand} {kl kc:IntKind} {z:Value} [ht:SliceTy P t elem size bytes] [hz:Zero P elem z] (hx:val e x=some (.int kl (c:Int))) (hy:val e y=some (.int kc (c:Int)))
  (hbytes:bytes*c≤281474976710656) (h63:c≤maxLen) (hd:Nat.blt d n=true)
  (k:∀ b w',w.heap.size=b→w'.ownsRow w.heap.size elem size (.slice (some ⟨b,0,none⟩) c c) c (madeCells z.cells (c*size)).toList→Grow w w'→TL P n ops rest ((d,.slice (some ⟨b,0,none⟩) c c)::e) w' Q) :
  TL P n ops (⟨some d,.makeSlice t x y,ty,pos,aft,none⟩::rest) e w Q:=by
 obtain ⟨i,z',hi,hsz,hby,hz',hzs,hne⟩:=ht.info
 have hzz:z'=z:=by
  have:=hz.h
  rw [hi] at this
  simp only [Option.bind_some,hz',Option.some.injEq] at this
  exact this
 subst hby
 subst hzz
 obtain ⟨w',hrun,h2,h3⟩:=run_make_full (P:=P) w w.heap.size t elem i z' size ht.und hi hz' hsz kl kc c hbytes h63 (Nat.le_refl _)
 refine TL.run (v:=.slice (some ⟨w.heap.size,0,none⟩) c c) (w':=w') (λ r hr=>?_) hd (k _ _ rfl h2 (Grow.mk ⟨h3.os,h3.tape,h3.output,h3.size,λ k hk=>h3.block k hk (by simp)⟩))
 simp [execOp,hr.eval hx,hr.eval hy,hrun]
theorem gR {t:TypeId} {x y:Operand} {b:Bool} {d:Option Nat} (h:TL P n ops (⟨d,.lookup t x y b,ty,pos,aft,none⟩::rest) e w Q):TL P n ops (⟨d,.lookup t x y b,ty,pos,aft,none⟩::rest) e w Q:=h
theorem TL.isMapUp {t:TypeId} {x y z:Operand} {d:Option Nat} (h:TL P n ops (⟨d,.mapUpdate t x y z,ty,pos,aft,none⟩::rest) e w Q):TL P n ops (⟨d,.mapUpdate t x y z,ty,pos,aft,none⟩::rest) e w Q:=h
theorem TL.isMakeMap {t:TypeId} {x:Option Operand} {d:Option Nat} (h:TL P n ops (⟨d,.makeMap t x,ty,pos,aft,none⟩::rest) e w Q):TL P n ops (⟨d,.makeMap t x,ty,pos,aft,none⟩::rest) e w Q:=h
end
end Go.V
namespace Go.V
open Go Go.RowKit
structure AFact (SA:World→World→Prop) where
 G:Fact
 st:∀ v lo hi w w',Grow w w'→G v lo hi w→G v lo hi w'
 firm:Bool:=false
 fm:firm=true→∀ v lo hi w w',SA w w'→G v lo hi w→G v lo hi w':=by intro h;cases h
section any
variable {SA:World→World→Prop}
def afAt:List (AFact SA)→Nat→Fact
 | [],_=>λ _ _ _ _=>True
 | g::_,0=>g.G
 | _::gs,i+1=>afAt gs i
def afFirm:List (AFact SA)→Nat→Bool
 | [],_=>true
 | g::_,0=>g.firm
 | _::gs,i+1=>afFirm gs i
theorem afAt_keep:∀ (Gs:List (AFact SA)) (i:Nat) (v:Value) (lo hi:Nat) (w w':World),Grow w w'→afAt Gs i v lo hi w→afAt Gs i v lo hi w'
 | [],_,_,_,_,_,_,_,_=>trivial
 | g::_,0,v,lo,hi,w,w',hg,h=>g.st v lo hi w w' hg h
 | _::gs,i+1,v,lo,hi,w,w',hg,h=>afAt_keep gs i v lo hi w w' hg h
theorem afAt_firm:∀ (Gs:List (AFact SA)) (i:Nat) (v:Value) (lo hi:Nat) (w w':World),afFirm Gs i=true→SA w w'→afAt Gs i v lo hi w→afAt Gs i v lo hi w'
 | [],_,_,_,_,_,_,_,_,_=>trivial
 | g::_,0,v,lo,hi,w,w',hf,hg,h=>g.fm hf v lo hi w w' hg h
 | _::gs,i+1,v,lo,hi,w,w',hf,hg,h=>afAt_firm gs i v lo hi w w' hf hg h
def NeedA (l:List Oper) (Gs:List (AFact SA)) (w:World) (lo hi:Nat→Nat) (K:dQ→Prop):List Nat→dQ→Prop
 | [],acc=>K acc
 | j::js,acc=>∀ v,afAt Gs j v (lo j) (hi j) w→NeedA l Gs w lo hi K js ((fS l j,v)::acc)
theorem needA_env {l:List Oper} {Gs:List (AFact SA)} {w:World} {lo hi:Nat→Nat} {K:dQ→Prop} {vs:Nat→Value}:∀ {js:List Nat} {acc:dQ},NeedA l Gs w lo hi K js acc→(∀ j∈js,afAt Gs j (vs j) (lo j) (hi j) w) →
  ∃ acc',K acc'∧∀ t v,find acc' t=some v→(∃ j,j∈js∧t=fS l j∧v=vs j)∨find acc t=some v
 | [],acc,h,_=>⟨acc,h,λ t v hv=>Or.inr hv⟩
 | j::js,acc,h,hf=>by
  obtain ⟨acc',hk,hfd⟩:=needA_env (vs:=vs) (js:=js) (h (vs j) (hf j (by simp))) (λ x hx=>hf x (by simp [hx]))
  refine ⟨acc',hk,λ t v hv=>?_⟩
  rcases hfd t v hv with ⟨x,hx,h1,h2⟩|h1
  ·exact Or.inl ⟨x,by simp [hx],h1,h2⟩
  ·rw [fV] at h1
   split at h1
   ·rename_i hd
    cases h1
    exact Or.inl ⟨j,by simp,hd.symm,rfl⟩
   ·exact Or.inr h1
def oneA (d:Nat) (G:Fact) (R:World→World→Prop) (w:World):dS:=λ x e' w' =>
 match x with
 | .normal=>∃ v,find e' d=some v∧R w w'∧G v w.heap.size w'.heap.size w'
 | _=>False
def DoesA [Rn] (P:Program) (n:Nat) (l:List Oper) (e:dQ) (I0 I1 Iw:World→Prop) (Gs:List (AFact SA)) (A i:Nat):Prop :=
 match l[i]? with
 | none=>True
 | some o=>match Nat.beq i A with
  | true=>∀ w lo hi,I0 w→NeedA l Gs w lo hi (λ acc=>TL P n l.toArray [o] acc w (oneA (fS l i) (afAt Gs i) (λ w w'=>SA w w'∧I1 w') w)) (kM (cC o)) e
  | false=>∀ w lo hi,Iw w→NeedA l Gs w lo hi (λ acc=>TL P n l.toArray [o] acc w (oneA (fS l i) (afAt Gs i) Grow w)) (kM (cC o)) e
def AllA [Rn] (P:Program) (n:Nat) (l:List Oper) (e:dQ) (I0 I1 Iw:World→Prop) (Gs:List (AFact SA)) (A:Nat):Nat→Nat→Prop
 | _,0=>True
 | i,k+1=>DoesA P n l e I0 I1 Iw Gs A i∧AllA P n l e I0 I1 Iw Gs A (i+1) k
theorem allA_at [Rn] {P:Program} {n:Nat} {l:List Oper} {e:dQ} {I0 I1 Iw:World→Prop} {Gs:List (AFact SA)} {A:Nat}:∀ {k i:Nat},AllA P n l e I0 I1 Iw Gs A i k→∀ j,i≤j→j<i+k→DoesA P n l e I0 I1 Iw Gs A j
 | 0,_,_,j,h1,h2=>by omega
 | k+1,i,h,j,h1,h2=>by
  by_cases hj:j=i
  ·subst hj;exact h.1
  ·exact allA_at h.2 j (by omega) (by omega)
def lateB (l:List Oper) (A:Nat):Nat→Nat→Bool
 | 0,_=>false
 | f+1,j=>match l[j]? with
  | some o=>(cC o).any λ x=>Nat.beq x A || lateB l A f x
  | none=>false
def lateOk (l:List Oper) (Gs:List (AFact SA)) (A N:Nat):Bool:=(upto 0 N).all λ j=>afFirm Gs j || Nat.beq j A || lateB l A N j
structure MidA [Rn] (n:Nat) (l:List Oper) (e:dQ) (b0:Nat) (I0 I1 Iw:World→Prop) (Gs:List (AFact SA)) (N A:Nat) (listed:Array Bool) (a:Act) (w:World) (vs:Nat→Value) (lo hi:Nat→Nat):Prop where
 size:listed.size=l.length
 before:listed.getD A false=false→I0 w
 behind:listed.getD A false=true→I1 w
 defers:a.defers=Rn.ds
 tmps:a.tmps.size=n
 get:∀ t v,find e t=some v→a.tmps.getD t undef=v
 did:∀ i,i<N→listed.getD i false=true→afAt Gs i (vs i) (lo i) (hi i) w∧a.tmps.getD (fS l i) undef=vs i
 span:∀ i,i<N→listed.getD i false=true→b0≤lo i∧lo i≤hi i∧hi i≤w.heap.size
 apart:∀ i j,i<N→j<N→i≠j→listed.getD i false=true→listed.getD j false=true→hi i≤lo j∨hi j≤lo i
 rest:∀ i,N≤i→listed.getD i false=false
 closed:∀ j o,l[j]? = some o→listed.getD j false=true→∀ x∈cC o,listed.getD x false=true
theorem MidA.iw [Rn] {n:Nat} {l:List Oper} {e:dQ} {b0:Nat} {I0 I1 Iw:World→Prop} {Gs:List (AFact SA)} {N A:Nat} {listed:Array Bool} {a:Act} {w:World} {vs:Nat→Value} {lo hi:Nat→Nat} (m:MidA n l e b0 I0 I1 Iw Gs N A listed a w vs lo hi) (h0:∀ w,I0 w→Iw w) (h1:∀ w,I1 w→Iw w):Iw w:=by
 cases hA:listed.getD A false with
 | false=>exact h0 w (m.before hA)
 | true=>exact h1 w (m.behind hA)
theorem late_listed {l:List Oper} {A:Nat} {listed:Array Bool} (hc:∀ j o,l[j]? = some o→listed.getD j false=true→∀ x∈cC o,listed.getD x false=true):∀ (f j:Nat),lateB l A f j=true→listed.getD j false=true→listed.getD A false=true
 | 0,_,h,_=>by cases h
 | f+1,j,h,hj=>by
  unfold lateB at h
  split at h
  ·rename_i o ho
   obtain ⟨x,hx,hb⟩:=List.any_eq_true.1 h
   have hxl:=hc j o ho hj x hx
   simp only [Bool.or_eq_true] at hb
   rcases hb with hb|hb
   ·rw [Nat.eq_of_beq_eq_true hb] at hxl;exact hxl
   ·exact late_listed hc f x hb hxl
  ·cases h
variable [Rn]
variable {P:Program} {n:Nat} {l:List Oper} {e:dQ} {b0:Nat} {I0 I1 Iw:World→Prop} {Gs:List (AFact SA)} {N A:Nat} {Q:dS}
theorem anyA_runs (hA:A<N) (hN:N≤l.length) (hsink:N<l.length→∀ i,i<N→∃ j o,i<j∧j≤N∧l[j]? = some o∧i∈cC o)
  (h01:∀ w,I0 w→Iw w) (h11:∀ w,I1 w→Iw w) (hb0:∀ w,Iw w→b0≤w.heap.size) (hg0:∀ w w',I0 w→Grow w w'→I0 w') (hg1:∀ w w',I1 w→Grow w w'→I1 w') (hSA:∀ w w',SA w w'→w.heap.size≤w'.heap.size)
  (hlate:lateOk l Gs A N=true)
  (hh:∀ i,i<N→HeadAt l e n i) (ht:∀ j,N≤j→j<l.length→∃ o,l[j]? = some o∧(∀ x∈cC o,x<j)∧(j=N∨j-1∈cC o))
  (hdo:∀ i,i<N→DoesA P n l e I0 I1 Iw Gs A i)
  (htail:∀ w (lo hi:Nat→Nat) (vs:Nat→Value),I1 w→(∀ i,i<N→b0≤lo i∧lo i≤hi i∧hi i≤w.heap.size)→(∀ i j,i<N→j<N→i≠j→hi i≤lo j∨hi j≤lo i)→(∀ j,j<N→afAt Gs j (vs j) (lo j) (hi j) w) →
   ∃ acc,TL P n l.toArray (l.drop N) acc w Q∧∀ t v,find acc t=some v→(∃ j,j<N∧t=fS l j∧v=vs j)∨find e t=some v) :
  ∀ (m:Nat) (listed:Array Bool) (a:Act) (w:World) (vs:Nat→Value) (lo hi:Nat→Nat) (f:Nat),MidA n l e b0 I0 I1 Iw Gs N A listed a w vs lo hi →
   ((List.range N).filter λ i=>!(listed.getD i false)).length=m→f=m+(l.length-N)→wpAnyIn (FR Rn.ro) 0 P .any l.toArray (iP n Q) f listed a w:=by
 intro m
 induction m with
 | zero =>
  intro listed a w vs lo hi f mid hm hf
  have hall:∀ i,i<N→listed.getD i false=true:=by
   intro i hi
   have:=List.eq_nil_of_length_eq_zero hm
   have h2:=List.eq_nil_iff_forall_not_mem.1 this i
   simp only [List.mem_filter,List.mem_range,not_and,Bool.not_eq_true',Bool.not_eq_false] at h2
   exact h2 hi
  refine mQ ht f N listed a w (by omega) (Nat.le_refl _) mid.size hall (λ x hx hx2=>?_) ?_
  ·have:=mid.rest x hx
   rw [Array.getD_eq_getD_getElem?] at this ⊢
   cases hy:listed[x]? with
   | none=>rw [Array.getElem?_eq_none_iff] at hy;have:=mid.size;omega
   | some b=>simpa [hy] using this
  ·obtain ⟨acc,hk,hfind⟩:=htail w lo hi vs (mid.behind (hall A hA)) (λ i hi'=>mid.span i hi' (hall i hi')) (λ i j h1 h2 h3=>mid.apart i j h1 h2 h3 (hall i h1) (hall j h2)) (λ j hj=>(mid.did j hj (hall j hj)).1)
   refine hk.out ⟨mid.defers,mid.tmps,λ t v hv=>?_⟩
   rcases hfind t v hv with ⟨j,hj,rfl,rfl⟩|h3
   ·exact (mid.did j hj (hall j hj)).2
   ·exact mid.get t v h3
 | succ m ih =>
  intro listed a w vs lo hi f mid hm hf
  have hopen:∃ i,i<N∧listed.getD i false=false:=by
   have hne:((List.range N).filter λ i=>!(listed.getD i false))≠[]:=by intro h0;rw [h0] at hm;simp at hm
   obtain ⟨i,hi⟩:=List.exists_mem_of_ne_nil _ hne
   simp only [List.mem_filter,List.mem_range,Bool.not_eq_true'] at hi
   exact ⟨i,hi.1,hi.2⟩
  obtain ⟨f',rfl⟩:∃ f',f=f'+1:=⟨f-1,by omega⟩
  have hready:∀ j,j∈Region.ready .any l.toArray listed→j<N∧listed.getD j false=false:=by
   intro j hj
   obtain ⟨h3,o,h4,h5⟩:=dI.1 hj
   have hlt:j<l.length:=(List.getElem?_eq_some_iff.1 h4).1
   have hf2:listed.getD j false=false:=by
    rw [Array.getD_eq_getD_getElem?] at h3 ⊢
    cases hx:listed[j]? with
    | none=>simp
    | some b=>simpa [hx] using h3
   refine ⟨?_,hf2⟩
   rcases Nat.lt_or_ge j N with h|h
   ·exact h
   ·exfalso
    obtain ⟨o2,h6,_,h7⟩:=ht j h hlt
    rw [h4] at h6
    cases h6
    obtain ⟨i,hi,hi0⟩:=hopen
    by_cases hjN:j=N
    ·subst hjN
     have key:∀ k i,j-i≤k→i<j→listed.getD i false=false→False:=by
      intro k
      induction k with
      | zero=>intro i h1 h2;omega
      | succ k ihk =>
       intro i h1 h2 hl
       obtain ⟨x,o3,hx1,hx2,hx3,hx4⟩:=hsink hlt i h2
       by_cases hxj:x=j
       ·subst hxj
        rw [h4] at hx3
        cases hx3
        have:=h5 i hx4
        rw [hl] at this
        cases this
       ·refine ihk x (by omega) (by omega) ?_
        cases hv:listed.getD x false with
        | false=>rfl
        | true =>
         have:=mid.closed x o3 hx3 hv i hx4
         rw [hl] at this
         cases this
     exact key _ i (Nat.le_refl _) hi hi0
    ·have h8:=h5 (j-1) (h7.resolve_left hjN)
     rw [mid.rest (j-1) (by omega)] at h8
     cases h8
  have hsome:Region.ready .any l.toArray listed≠[]:=by
   have key:∀ k i,i≤k→i<N→listed.getD i false=false→∃ j,j∈Region.ready .any l.toArray listed:=by
    intro k
    induction k with
    | zero =>
     intro i hi hiN hl
     obtain ⟨o,d,ho,_,_,_,_,hdeps⟩:=(hh i hiN).ex
     refine ⟨i,dI.2 ⟨?_,o,ho,λ x hx=>?_⟩⟩
     ·rw [Array.getD_eq_getD_getElem?] at hl ⊢
      cases hx:listed[i]? with
      | none=>rw [Array.getElem?_eq_none_iff] at hx;have:=mid.size;omega
      | some b=>simpa [hx] using hl
     ·have:=hdeps x hx;omega
    | succ k ihk =>
     intro i hi hiN hl
     obtain ⟨o,d,ho,_,_,_,_,hdeps⟩:=(hh i hiN).ex
     by_cases hx:∃ x∈cC o,listed.getD x false=false
     ·obtain ⟨x,hx1,hx2⟩:=hx
      have:=hdeps x hx1
      exact ihk x (by omega) (by omega) hx2
     ·refine ⟨i,dI.2 ⟨?_,o,ho,λ x hx1=>?_⟩⟩
      ·rw [Array.getD_eq_getD_getElem?] at hl ⊢
       cases hx:listed[i]? with
       | none=>rw [Array.getElem?_eq_none_iff] at hx;have:=mid.size;omega
       | some b=>simpa [hx] using hl
      ·cases hv:listed.getD x false with
       | true=>rfl
       | false=>exact absurd ⟨x,hx1,hv⟩ hx
   have hne:((List.range N).filter λ i=>!(listed.getD i false))≠[]:=by intro h0;rw [h0] at hm;simp at hm
   obtain ⟨i,hi⟩:=List.exists_mem_of_ne_nil _ hne
   simp only [List.mem_filter,List.mem_range,Bool.not_eq_true'] at hi
   obtain ⟨j,hj⟩:=key i i (Nat.le_refl _) hi.1 hi.2
   intro h0
   rw [h0] at hj
   cases hj
  refine ⟨λ h0=>absurd h0 hsome,λ i hir=>?_⟩
  obtain ⟨hiN,hil⟩:=hready i hir
  obtain ⟨_,o,ho,hdl⟩:=dI.1 hir
  obtain ⟨o',d,ho',hd,hdn,hdf,hdd,hdeps⟩:=(hh i hiN).ex
  rw [ho] at ho'
  cases ho'
  have hdst:fS l i=d:=by simp [fS,ho,hd]
  have hdo':=hdo i hiN
  unfold DoesA at hdo'
  simp only [ho] at hdo'
  have hiw:=mid.iw h01 h11
  have hdeps':∀ j∈kM (cC o),afAt Gs j (vs j) (lo j) (hi j) w:=λ j hj=>(mid.did j (by have:=hdeps j (fK.1 hj);omega) (hdl j (fK.1 hj))).1
  obtain ⟨acc,hk,hfind⟩:∃ acc,TL P n l.toArray [o] acc w (oneA (fS l i) (afAt Gs i) (λ w w'=>match Nat.beq i A with|true=>SA w w'∧I1 w'|false=>Grow w w') w)∧∀ t v,find acc t=some v→(∃ j,j∈kM (cC o)∧t=fS l j∧v=vs j)∨find e t=some v:=by
   cases hb:Nat.beq i A with
   | true =>
    rw [hb] at hdo'
    have hiA:=Nat.eq_of_beq_eq_true hb
    exact needA_env (vs:=vs) (hdo' w lo hi (mid.before (by rw [← hiA];exact hil))) hdeps'
   | false =>
    rw [hb] at hdo'
    exact needA_env (vs:=vs) (hdo' w lo hi hiw) hdeps'
  have hfit:Fits n acc a:=⟨mid.defers,mid.tmps,λ t v hv=>by
   rcases hfind t v hv with ⟨j,hj,rfl,rfl⟩|h3
   ·exact (mid.did j (by have:=hdeps j (fK.1 hj);omega) (hdl j (fK.1 hj))).2
   ·exact mid.get t v h3⟩
  have hrun:=hk.out hfit
  unfold wpOpIn
  rw [show l.toArray[i]? = some o by simpa using ho]
  simp only
  have hnext:∀ a' w',iP n (oneA (fS l i) (afAt Gs i) (λ w w'=>match Nat.beq i A with|true=>SA w w'∧I1 w'|false=>Grow w w') w) .normal a' w'→(∃ v,a'.tmps=(a.put o.dst v).tmps)→wpAnyIn (FR Rn.ro) 0 P .any l.toArray (iP n Q) f' (listed.setIfInBounds i true) a' w':=by
   rintro a' w' ⟨e',he',v,hv,hg,hG⟩ ⟨u,hu⟩
   rw [hdst] at hv
   have hva:a'.tmps.getD d undef=v:=he'.get d v hv
   rw [hu,hd] at hva
   have hds:d<a.tmps.size:=by rw [mid.tmps];exact hdn
   rw [jK hds,if_pos rfl] at hva
   subst hva
   have hother:∀ t,t≠d→a'.tmps.getD t undef=a.tmps.getD t undef:=λ t ht=>by
    rw [hu,hd,jK hds,if_neg (λ h=>ht h.symm)]
   have hws:w.heap.size≤w'.heap.size:=by
    cases hb:Nat.beq i A with
    | true=>rw [hb] at hg;exact hSA _ _ hg.1
    | false=>rw [hb] at hg;exact hg.size
   have hsz:i<listed.size:=by rw [mid.size];exact (List.getElem?_eq_some_iff.1 ho).1
   have hAl:∀ b,(listed.setIfInBounds i true).getD A false=b→i≠A→listed.getD A false=b:=λ b h hne=>by
    rwa [Array.getD_eq_getD_getElem?,Array.getElem?_setIfInBounds_ne hne,← Array.getD_eq_getD_getElem?] at h
   refine ih (listed.setIfInBounds i true) a' w' (λ j=>if j=i then u else vs j) (λ j=>if j=i then w.heap.size else lo j) (λ j=>if j=i then w'.heap.size else hi j) f' ⟨by simp [mid.size],λ h=>?_,λ h=>?_,he'.defers,he'.size,λ t v hv=>?_,λ j hj hjl=>?_,λ j hj hjl=>?_,λ j k hj hk hjk hjl hkl=>?_,λ j hj=>?_,λ j oj hoj hjl x hx=>?_⟩ ?_ (by omega)
   ·cases hb:Nat.beq i A with
    | true =>
     have hiA:=Nat.eq_of_beq_eq_true hb
     rw [← hiA] at h
     simp [Array.getD_eq_getD_getElem?,hsz] at h
    | false =>
     rw [hb] at hg
     exact hg0 _ _ (mid.before (hAl _ h (Nat.ne_of_beq_eq_false hb))) hg
   ·cases hb:Nat.beq i A with
    | true=>rw [hb] at hg;exact hg.2
    | false =>
     rw [hb] at hg
     exact hg1 _ _ (mid.behind (hAl _ h (Nat.ne_of_beq_eq_false hb))) hg
   ·have htd:t≠d:=λ h=>by rw [h,hdf] at hv;cases hv
    rw [hother t htd]
    exact mid.get t v hv
   ·by_cases hji:j=i
    ·subst hji
     simp only [if_true]
     refine ⟨hG,?_⟩
     rw [hdst,hu,hd,jK hds,if_pos rfl]
    ·simp only [if_neg hji]
     have hjl':listed.getD j false=true:=by
      rwa [Array.getD_eq_getD_getElem?,Array.getElem?_setIfInBounds_ne (λ h=>hji h.symm),← Array.getD_eq_getD_getElem?] at hjl
     obtain ⟨h1,h2⟩:=mid.did j hj hjl'
     refine ⟨?_,?_⟩
     ·cases hb:Nat.beq i A with
      | false =>
       rw [hb] at hg
       exact afAt_keep Gs j _ _ _ w w' hg h1
      | true =>
       rw [hb] at hg
       have hiA:=Nat.eq_of_beq_eq_true hb
       have hjo:=List.all_eq_true.1 hlate j (fJ.2 ⟨Nat.zero_le _,by omega⟩)
       simp only [Bool.or_eq_true] at hjo
       rcases hjo with (hjo|hjo)|hjo
       ·exact afAt_firm Gs j _ _ _ w w' hjo hg.1 h1
       ·exact absurd ((Nat.eq_of_beq_eq_true hjo).trans hiA.symm) hji
       ·have:=late_listed mid.closed N j hjo hjl'
        rw [← hiA,hil] at this
        cases this
     have hne:fS l j≠d:=by
      rcases Nat.lt_or_ge j i with h|h
      ·exact hdd j h
      ·obtain ⟨oj,dj,hoj,hdj,_,_,hddj,_⟩:=(hh j hj).ex
       have h3:=hddj i (by omega)
       rw [hdst] at h3
       have:fS l j=dj:=by simp [fS,hoj,hdj]
       rw [this]
       exact λ h=>h3 h.symm
     rw [hother _ hne]
     exact h2
   ·by_cases hji:j=i
    ·subst hji;simp only [if_true];exact ⟨hb0 _ hiw,hws,Nat.le_refl _⟩
    ·have hjl':listed.getD j false=true:=by
      rwa [Array.getD_eq_getD_getElem?,Array.getElem?_setIfInBounds_ne (λ h=>hji h.symm),← Array.getD_eq_getD_getElem?] at hjl
     simp only [if_neg hji]
     have:=mid.span j hj hjl'
     omega
   ·have old:∀ x,x≠i→(listed.setIfInBounds i true).getD x false=true→listed.getD x false=true:=λ x hx h=>by
     rwa [Array.getD_eq_getD_getElem?,Array.getElem?_setIfInBounds_ne (λ h=>hx h.symm),← Array.getD_eq_getD_getElem?] at h
    by_cases hji:j=i
    ·by_cases hki:k=i
     ·omega
     ·simp only [if_pos hji,if_neg hki]
      have:=mid.span k hk (old k hki hkl)
      omega
    ·by_cases hki:k=i
     ·simp only [if_neg hji,if_pos hki]
      have:=mid.span j hj (old j hji hjl)
      omega
     ·simp only [if_neg hji,if_neg hki]
      exact mid.apart j k hj hk hjk (old j hji hjl) (old k hki hkl)
   ·rw [Array.getD_eq_getD_getElem?,Array.getElem?_setIfInBounds_ne (by omega),← Array.getD_eq_getD_getElem?]
    exact mid.rest j hj
   ·by_cases hxi:i=x
    ·subst hxi
     simp [Array.getD_eq_getD_getElem?,hsz]
    ·rw [Array.getD_eq_getD_getElem?,Array.getElem?_setIfInBounds_ne hxi,← Array.getD_eq_getD_getElem?]
     by_cases hji:i=j
     ·subst hji
      rw [ho] at hoj
      cases hoj
      exact hdl x hx
     ·rw [Array.getD_eq_getD_getElem?,Array.getElem?_setIfInBounds_ne hji,← Array.getD_eq_getD_getElem?] at hjl
      exact mid.closed j oj hoj hjl x hx
   ·
    have hcount:∀ (L:List Nat),L.Nodup→i∈L→(L.filter λ j=>!((listed.setIfInBounds i true).getD j false)).length+1=(L.filter λ j=>!(listed.getD j false)).length:=by
     intro L
     induction L with
     | nil=>intro _ h;cases h
     | cons x xs ihx =>
      intro hnd hmem
      rw [List.nodup_cons] at hnd
      by_cases hxi:x=i
      ·subst hxi
       have hsame:(xs.filter λ j=>!((listed.setIfInBounds x true).getD j false))=xs.filter λ j=>!(listed.getD j false):=by
        apply List.filter_congr
        intro y hy
        have hyx:x≠y:=λ h=>hnd.1 (h▸hy)
        rw [Array.getD_eq_getD_getElem?,Array.getElem?_setIfInBounds_ne hyx,← Array.getD_eq_getD_getElem?]
       have h1:(listed.setIfInBounds x true).getD x false=true:=by simp [Array.getD_eq_getD_getElem?,hsz]
       rw [List.filter_cons_of_neg (by simp [h1]),hsame,List.filter_cons_of_pos (by simp [hil])]
       simp
      ·have hmem':i∈xs:=by
        rcases List.mem_cons.1 hmem with h|h
        ·exact absurd h.symm hxi
        ·exact h
       have:=ihx hnd.2 hmem'
       have hx2:(listed.setIfInBounds i true).getD x false=listed.getD x false:=by
        rw [Array.getD_eq_getD_getElem?,Array.getElem?_setIfInBounds_ne (λ h=>hxi h.symm),← Array.getD_eq_getD_getElem?]
       cases hc:listed.getD x false with
       | true=>rw [List.filter_cons_of_neg (by simp [hx2,hc]),List.filter_cons_of_neg (by simp [hc])];exact this
       | false=>rw [List.filter_cons_of_pos (by simp [hx2,hc]),List.filter_cons_of_pos (by simp [hc])];simp only [List.length_cons];omega
    have:=hcount (List.range N) List.nodup_range (List.mem_range.2 hiN)
    omega
  unfold wpListIn at hrun
  split
  ·rename_i hw
   rw [if_pos hw] at hrun
   exact (Oper.wpIn_mono (λ a' w' hh=>hnext a' w' hh.1 hh.2) (wp_swap (wp_frame hrun) (λ x a w hx hq=>by
     refine (lift_no hq λ e0 w0 hq=>?_).elim
     cases x<;>first|exact absurd rfl hx|exact hq)))
  ·rename_i hw
   rw [if_neg hw] at hrun
   exact ⟨hrun.1,hnext _ _ hrun.2 ⟨undef,rfl⟩⟩
def isA (v:Value):AFact SA:=⟨λ u _ _ _=>u=v,λ _ _ _ _ _ _ h=>h,true,λ _ _ _ _ _ _ _ h=>h⟩
def ofA (R:Value→World→Prop) (h:∀ v w w',Grow w w'→R v w→R v w'):AFact SA:={ G:=λ v _ _ w=>R v w,st:=λ v _ _ w w' g=>h v w w' g }
theorem allA_end {i:Nat}:AllA P n l e I0 I1 Iw Gs A i 0:=trivial
theorem allA_cons {i k:Nat} (h:DoesA P n l e I0 I1 Iw Gs A i) (hs:AllA P n l e I0 I1 Iw Gs A (i+1) k):AllA P n l e I0 I1 Iw Gs A i (k+1):=⟨h,hs⟩
theorem fM {i d:Nat} {o:Oper} {g:AFact SA} (ho:l[i]? = some o) (hd:o.dst=some d) (hg:afAt Gs i=g.G) (hb:Nat.beq i A=false) (h:∀ w lo hi,Iw w→NeedA l Gs w lo hi (λ acc=>TL P n l.toArray [o] acc w (oneA d g.G Grow w)) (kM (cC o)) e):DoesA P n l e I0 I1 Iw Gs A i:=by
 unfold DoesA
 rw [ho]
 simp only [hb]
 rw [hg,dstAt_of (d:=d) (by rw [ho];exact hd)]
 exact h
theorem doesA_it {i d:Nat} {o:Oper} {g:AFact SA} (ho:l[i]? = some o) (hd:o.dst=some d) (hg:afAt Gs i=g.G) (hb:Nat.beq i A=true) (h:∀ w lo hi,I0 w→NeedA l Gs w lo hi (λ acc=>TL P n l.toArray [o] acc w (oneA d g.G (λ w w'=>SA w w'∧I1 w') w)) (kM (cC o)) e):DoesA P n l e I0 I1 Iw Gs A i:=by
 unfold DoesA
 rw [ho]
 simp only [hb]
 rw [hg,dstAt_of (d:=d) (by rw [ho];exact hd)]
 exact h
theorem cY {w:World} {lo hi:Nat→Nat} {K:dQ→Prop} {j d:Nat} {g:AFact SA} {js:List Nat} {acc:dQ} (hd:(l[j]?).bind (·.dst)=some d) (hg:afAt Gs j=g.G) (h:∀ v,g.G v (lo j) (hi j) w→NeedA l Gs w lo hi K js ((d,v)::acc)):NeedA l Gs w lo hi K (j::js) acc:=by
 unfold NeedA
 rw [hg,dstAt_of hd]
 exact h
theorem dJ {w:World} {lo hi:Nat→Nat} {K:dQ→Prop} {acc:dQ} (h:K acc):NeedA l Gs w lo hi K [] acc:=h
theorem eE {d:Nat} {G:Fact} {w w':World} {R:World→World→Prop} {e':dQ} {v:Value} (hv:find e' d=some v) (hg:R w w') (hG:G v w.heap.size w'.heap.size w'):oneA d G R w .normal e' w':=⟨v,hv,hg,hG⟩
theorem T.anyA {rid:Nat} {w0:World} (SA:World→World→Prop) (N A:Nat) (I0 I1 Iw:World→Prop) (Gs:List (AFact SA)) [hm:Mixed P] (hc:(headOk l e n 0 N&&tailOk l N N (l.length-N)&&Nat.ble N l.length&&(Nat.ble l.length N || sinkOk l N)&&Nat.blt A N&&lateOk l Gs A N)=true)
  (hI:I0 w0) (h01:∀ w,I0 w→Iw w) (h11:∀ w,I1 w→Iw w) (hb0:∀ w,Iw w→w0.heap.size≤w.heap.size) (hg0:∀ w w',I0 w→Grow w w'→I0 w') (hg1:∀ w w',I1 w→Grow w w'→I1 w') (hSA:∀ w w',SA w w'→w.heap.size≤w'.heap.size)
  (hdo:AllA P n l e I0 I1 Iw Gs A 0 N) (htail:∀ w (lo hi:Nat→Nat),I1 w→(∀ i,i<N→w0.heap.size≤lo i∧lo i≤hi i∧hi i≤w.heap.size)→(∀ i j,i<N→j<N→i≠j→hi i≤lo j∨hi j≤lo i)→NeedA l Gs w lo hi (λ acc=>TL P n l.toArray (l.drop N) acc w Q) (upto 0 N) e):T P n (.region rid l.toArray true) e w0 Q:=by
 simp only [Bool.and_eq_true] at hc
 obtain ⟨⟨⟨⟨⟨hc1,hc2⟩,hc3⟩,hc4⟩,hc5⟩,hc6⟩:=hc
 have hN:N≤l.length:=Nat.le_of_ble_eq_true hc3
 have hsink:N<l.length→sinkOk l N=true:=by
  intro h
  simp only [Bool.or_eq_true] at hc4
  rcases hc4 with h2|h2
  ·have:=Nat.le_of_ble_eq_true h2;omega
  ·exact h2
 have hgf:∀ i,(Array.replicate l.toArray.size false).getD i false=false:=by
  intro i
  rw [Array.getD_eq_getD_getElem?]
  rcases Nat.lt_or_ge i l.length with hi|hi
  ·simp [hi]
  ·simp [hi]
 refine T.mk λ a ha=>wpIn_region_any hm.h ?_
 refine anyA_runs (b0:=w0.heap.size) (A:=A) (Nat.le_of_ble_eq_true hc5) hN (λ h i hi=>sinkOk_at (hsink h) i hi) h01 h11 hb0 hg0 hg1 hSA hc6 (λ i hi=>headOk_at hc1 i (Nat.zero_le _) (by omega)) (λ j h1 h2=>kV hc2 j h1 (by omega)) (λ i hi=>allA_at hdo i (Nat.zero_le _) (by omega)) ?_
  N (Array.replicate l.toArray.size false) a _ (λ _=>undef) (λ _=>0) (λ _=>0) _ ⟨by simp,λ _=>hg0 _ _ hI (Grow.drew _),λ h=>?_,ha.defers,ha.size,ha.get,λ i _ h=>?_,λ i _ h=>?_,λ i j _ _ _ h _=>?_,λ i _=>hgf i,λ j o _ h x _=>?_⟩ ?_ (by simp;omega)
 ·intro w lo hi vs h1 h2 h3 h4
  obtain ⟨acc,hk,hf⟩:=needA_env (vs:=vs) (htail w lo hi h1 h2 h3) (λ j hj=>h4 j (by have:=fJ.1 hj;omega))
  refine ⟨acc,hk,λ t v hv=>?_⟩
  rcases hf t v hv with ⟨j,hj,h5⟩|h5
  ·exact Or.inl ⟨j,by have:=fJ.1 hj;omega,h5⟩
  ·exact Or.inr h5
 ·rw [hgf] at h;cases h
 ·rw [hgf] at h;cases h
 ·rw [hgf] at h;cases h
 ·rw [hgf] at h;cases h
 ·rw [hgf] at h;cases h
 ·have:((List.range N).filter λ i=>!((Array.replicate l.toArray.size false).getD i false))=List.range N:=by
   rw [List.filter_eq_self]
   intro i hi
   rw [hgf]
   rfl
  rw [this]
  simp
end any
end Go.V
