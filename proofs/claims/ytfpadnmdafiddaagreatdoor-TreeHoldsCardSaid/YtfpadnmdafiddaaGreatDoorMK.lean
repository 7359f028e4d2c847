import Derived.Test.YtfpadnmdafiddaaGreatDoorMF
import Derived.Test.YtfpadnmdafiddaaGreatDoorMl
import Derived.WideKeyArgs2
import Derived.Laws.BytesArg
set_option linter.all false
set_option maxHeartbeats 16000000
set_option maxRecDepth 100000
namespace Go.V
open Go Go.RowKit Go.ChangeShapes Go.WideShapes Go.MapKept Go.ChangeMaps
def iH (l:List Nat):ByteArray:=strOfNums (l.map λ (b:Nat)=>(b:Int))
theorem txt_list (l:List Nat):(iH l).toList=l.map UInt8.ofNat:=by
 have h1:(iH l).data.toList=l.map UInt8.ofNat:=by
  rw [iH,strOfNums_data,List.map_map]
  apply List.map_congr_left
  intro x _
  simp
 rw [ByteArray.toList_eq,h1]
theorem txt_eq {l r:List Nat} (hl:∀ x∈l,x<256) (hr:∀ x∈r,x<256):((iH l).toList==(iH r).toList)=decide (l=r):=by
 rw [txt_list,txt_list]
 by_cases h:l=r
 ·subst h;simp
 ·rw [decide_eq_false h]
  apply Bool.eq_false_iff.2
  intro hc
  have he:=eq_of_beq hc
  apply h
  have key:∀ (x:List Nat),(∀ b∈x,b<256)→(x.map UInt8.ofNat).map UInt8.toNat=x:=by
   intro x hx
   rw [List.map_map]
   conv=>rhs;rw [← List.map_id x]
   apply List.map_congr_left
   intro b hb
   simp only [Function.comp,id]
   exact UInt8.toNat_ofNat_of_lt' (hx b hb)
  rw [← key l hl,← key r hr,he]
theorem txt_size (l:List Nat):(iH l).size=l.length:=by
 have:(iH l).data.toList.length=l.length:=by
  rw [iH,strOfNums_data];simp
 rw [← this];rfl
theorem txt_append (l r:List Nat):iH (l++r)=iH l++iH r:=by
 apply ByteArray.ext
 apply Array.ext'
 rw [iH,strOfNums_data,ByteArray.data_append,Array.toList_append,iH,strOfNums_data,iH,strOfNums_data]
 simp
section
variable [Rn]
variable {P:Program} {n:Nat} {e:dQ} {w:World} {Q:dS} {ops:Array Oper} {rest:List Oper} {d:Nat} {ty:TypeId} {pos:String} {aft:Array Edge}
theorem StrTy.und {t:TypeId} (h:StrTy P t):P.underlying t=some .string:=by
 have h:=h.h
 unfold strB at h
 split at h
 ·assumption
 ·cases h
theorem run_convS {src dst el:TypeId} (hs:P.underlying src=some (.slice el)) (he:P.underlying el=some (.int .u8)) (hd:P.underlying dst=some .string) {F:Nat→Prop} {a:Option Addr} {m c:Nat} {l:List Nat} (h:Sl F w 1 a m c (l.map λ (b:Nat)=>Value.int .u8 (b:Int))) :
  (convert src dst (.slice a m c)).run P w=.ok (.string (iH l)) w:=by
 have hl:=h.len
 simp only [List.length_map,Nat.mul_one] at hl
 cases a with
 | none =>
  have h0:=h.nil rfl
  have h1:=h.cap
  have:l=[]:=List.eq_nil_of_length_eq_zero (by omega)
  subst this
  rw [run_convert_bytes_nil w src el hs he m c dst hd]
  rfl
 | some p =>
  obtain ⟨b,o,s⟩:=p
  by_cases h0:l=[]
  ·subst h0
   simp only [List.length_nil] at hl
   subst hl
   rw [run_convert_bytes_string w src dst el _ 0 c hs he hd,run_bytesToString w _ 0 c [] (by simp [Builtin.firstCells,loadCells,loadCellsFrom])]
   rfl
  ·have hr:=h.row (by simpa using h0)
   obtain ⟨hs0,_,_,hc⟩:=hr
   simp only at hs0
   subst hs0
   exact run_convert_bytes_arg w src el hs he b o m c (l.map λ (b:Nat)=>(b:Int)) (by simpa using hl) (λ i hi=>by
    have:=hc i (.int .u8 ((l.getD i 0:Nat):Int)) (by simp [List.getElem?_eq_getElem (show i<l.length by omega)])
    rw [this]
    simp [List.getElem?_eq_getElem (show i<l.length by omega)]) dst hd
theorem gA {src dst el size bytes:TypeId} {x:Operand} {F:Nat→Prop} {a:Option Addr} {m c:Nat} {l:List Nat} [ht:SliceTy P src el size bytes] [he:IntTy P el .u8] [hs:StrTy P dst]
  (hx:val e x=some (.slice a m c)) (h:Sl F w 1 a m c (l.map λ (b:Nat)=>Value.int .u8 (b:Int))) (hd:Nat.blt d n=true)
  (k:TL P n ops rest ((d,.string (iH l))::e) w Q):TL P n ops (⟨some d,.convert src dst x,ty,pos,aft,none⟩::rest) e w Q :=
 TL.run (λ r hr=>by simp [execOp,hr.eval hx,run_convS ht.und he.und hs.und h]) hd k
theorem TL.neS {x y:Operand} {s t:ByteArray} {t1 t2:TypeId} {b:Bool} (hx:val e x=some (.string s)) (hy:val e y=some (.string t)) (h:(!(s.toList==t.toList))=b) (hd:Nat.blt d n=true)
  (k:TL P n ops rest ((d,.bool b)::e) w Q):TL P n ops (⟨some d,.binOp .neq t1 x y t2,ty,pos,aft,none⟩::rest) e w Q :=
 TL.run (λ r hr=>by
  have hg:eqGuard .neq t1 x y (.string s) (.string t)=Pure.pure ():=rfl
  simp only [execOp,hr.eval hx,hr.eval hy,hg]
  simp [binOp,Op.stringOp,← h]) hd k
theorem TL.eqS {x y:Operand} {s t:ByteArray} {t1 t2:TypeId} {b:Bool} (hx:val e x=some (.string s)) (hy:val e y=some (.string t)) (h:(s.toList==t.toList)=b) (hd:Nat.blt d n=true)
  (k:TL P n ops rest ((d,.bool b)::e) w Q):TL P n ops (⟨some d,.binOp .eql t1 x y t2,ty,pos,aft,none⟩::rest) e w Q :=
 TL.run (λ r hr=>by
  have hg:eqGuard .eql t1 x y (.string s) (.string t)=Pure.pure ():=rfl
  simp only [execOp,hr.eval hx,hr.eval hy,hg]
  simp [binOp,Op.stringOp,← h]) hd k
theorem TL.addS {x y:Operand} {l r:List Nat} {t1 t2:TypeId} (hx:val e x=some (.string (iH l))) (hy:val e y=some (.string (iH r))) (h:l.length+r.length≤1000000) (hd:Nat.blt d n=true)
  (k:TL P n ops rest ((d,.string (iH (l++r)))::e) w Q):TL P n ops (⟨some d,.binOp .add t1 x y t2,ty,pos,aft,none⟩::rest) e w Q :=
 TL.run (λ q hr=>by
  have hg:eqGuard .add t1 x y (.string (iH l)) (.string (iH r))=Pure.pure ():=rfl
  simp only [execOp,hr.eval hx,hr.eval hy,hg]
  have h1:¬ ((((iH l).size+(iH r).size:Nat):Int) > IntKind.i64.max):=by
   rw [txt_size,txt_size];simp [IntKind.max,IntKind.bits,IntKind.signed];omega
  simp [binOp,Op.stringOp,txt_append,txt_size]
  omega) hd k
end
class KeyIs {α : Type} (P:Program) (kt:TypeId) (κ : α→Value) (ok : α→Prop):Prop where
 keyed:Maps.Keyed P kt
 key:∀ a,ok a→∃ l,keyOf P kt (κ a)=some l
 inj:∀ a b,ok a→ok b→κ a = κ b→a=b
def MapG {α : Type} (κ : α→Value) (ok : α→Prop) (w:World) (m:Nat) (f : α→Option Value):Prop:=∃ es clock,w.heap[m]? = some (.map es clock)∧(∀ x∈es.toList,∃ n : α,ok n∧x.key = κ n∧f n=some x.val) ∧
 (∀ n v,f n=some v→ok n∧∃ x∈es.toList,x.key = κ n)∧es.toList.Pairwise λ x y=>x.key≠y.key
section
variable [Rn]
variable {P:Program} {n:Nat} {e:dQ} {w w':World} {Q:dS} {ops:Array Oper} {rest:List Oper} {d:Nat} {ty:TypeId} {pos:String} {aft:Array Edge} {α : Type} {κ : α→Value} {ok : α→Prop}
theorem MapG.lt {m:Nat} {f : α→Option Value} (h:MapG κ ok w m f):m<w.heap.size:=by
 obtain ⟨es,c,h1,_⟩:=h
 exact (Array.getElem?_eq_some_iff.1 h1).1
theorem MapG.keep {m:Nat} {f : α→Option Value} (h:MapG κ ok w m f) (hk:w'.heap[m]? = w.heap[m]?):MapG κ ok w' m f:=by
 obtain ⟨es,c,h1,h2⟩:=h
 exact ⟨es,c,by rw [hk];exact h1,h2⟩
theorem MapG.grow {m:Nat} {f : α→Option Value} (g:Grow w w') (h:MapG κ ok w m f):MapG κ ok w' m f:=h.keep (g.block m h.lt)
theorem TL.makeMapG {t:TypeId} (hd:Nat.blt d n=true)
  (k:∀ b w',Grow w w'→MapG κ ok w' b (λ _=>none)→w.heap.size=b→w'.heap.size=b+1→TL P n ops rest ((d,.map (some b))::e) w' Q) :
  TL P n ops (⟨some d,.makeMap t none,ty,pos,aft,none⟩::rest) e w Q :=
 TL.run (v:=.map (some w.heap.size)) (w':=w.alloc (.map #[] 0)) (λ r hr=>by simp [execOp,run_makeMap]) hd
  (k _ _ (jQ _) ⟨#[],0,by show (w.heap.push _)[w.heap.size]? = _;simp,by simp,by simp,List.Pairwise.nil⟩ rfl (by simp))
theorem MapG.find {kt m:Nat} (ht:KeyIs P kt κ ok) {f : α→Option Value} (h:MapG κ ok w m f) {k : α} (hk:ok k) :
  ∃ es c,w.heap[m]? = some (.map es c)∧(match f k with
   | none=>(Instr.findKey kt (κ k) es.toList).run P w=.ok none w∧∀ x∈es.toList,x.key≠κ k
   | some v=>∃ j e0,(Instr.findKey kt (κ k) es.toList).run P w=.ok (some (j,v)) w∧es.toList[j]? = some e0∧e0.key = κ k) ∧
   (∀ x∈es.toList,∃ n : α,ok n∧x.key = κ n∧f n=some x.val)∧(∀ n v,f n=some v→ok n∧∃ x∈es.toList,x.key = κ n)∧es.toList.Pairwise λ x y=>x.key≠y.key:=by
 obtain ⟨es,c,h1,h2,h3,h5⟩:=h
 refine ⟨es,c,h1,?_,h2,h3,h5⟩
 have hkeys:∀ u∈es.toList,∃ l,keyOf P kt u.key=some l:=λ u hu=>by
  obtain ⟨n,hn,e1,_⟩:=h2 u hu
  rw [e1]
  exact ht.key n hn
 rcases ht.keyed.find w (ht.key k hk).choose_spec es.toList hkeys with ⟨g1,g2⟩|⟨j,e0,g1,g2,g3⟩
 ·cases hf:f k with
  | none=>exact ⟨g1,g2⟩
  | some v=>obtain ⟨_,x,hx,e⟩:=h3 k v hf;exact absurd e (g2 x hx)
 ·obtain ⟨n,hn,e1,e2⟩:=h2 e0 (List.mem_of_getElem? g2)
  rw [g3] at e1
  have hnk:n=k:=ht.inj _ _ hn hk e1.symm
  subst hnk
  rw [e2]
  exact ⟨j,e0,g1,g2,g3⟩
theorem TL.lookYesG {t kt el m:Nat} {k : α} {x y:Operand} {f : α→Option Value} {v:Value} [ht:MapTy P t kt el] [hk:KeyIs P kt κ ok] (hx:val e x=some (.map (some m))) (hy:val e y=some (κ k)) (hm:MapG κ ok w m f) (hf:f k=some v) (hkl:ok k) (hd:Nat.blt d n=true)
  (kk:TL P n ops rest ((d,.tuple #[v,.bool true])::e) w Q):TL P n ops (⟨some d,.lookup t x y true,ty,pos,aft,none⟩::rest) e w Q :=
 TL.run (λ r hr=>by
  obtain ⟨es,c,h1,h2,h3,h4,h5⟩:=hm.find hk hkl
  rw [hf] at h2
  obtain ⟨j,e0,g1,g2,g3⟩:=h2
  simp [execOp,hr.eval hx,hr.eval hy,Instr.lookup,run_underlying ht.und,MapKept.run_getObj_map h1,hk.keyed.check w _ (hk.key k hkl).choose_spec,g1,Result.andThen]) hd kk
theorem TL.lookNoG {t kt el m:Nat} {k : α} {x y:Operand} {f : α→Option Value} {z:Value} [ht:MapTy P t kt el] [hk:KeyIs P kt κ ok] [hz:Zero P el z] (hx:val e x=some (.map (some m))) (hy:val e y=some (κ k)) (hm:MapG κ ok w m f) (hf:f k=none) (hkl:ok k) (hd:Nat.blt d n=true)
  (kk:TL P n ops rest ((d,.tuple #[z,.bool false])::e) w Q):TL P n ops (⟨some d,.lookup t x y true,ty,pos,aft,none⟩::rest) e w Q :=
 TL.run (λ r hr=>by
  obtain ⟨es,c,h1,h2,h3,h4,h5⟩:=hm.find hk hkl
  rw [hf] at h2
  obtain ⟨g1,g2⟩:=h2
  simp [execOp,hr.eval hx,hr.eval hy,Instr.lookup,run_underlying ht.und,MapKept.run_getObj_map h1,hk.keyed.check w _ (hk.key k hkl).choose_spec,g1,hz.run,Result.andThen]) hd kk
theorem TL.look1G {t kt el m:Nat} {k : α} {x y:Operand} {f : α→Option Value} {v:Value} [ht:MapTy P t kt el] [hk:KeyIs P kt κ ok] (hx:val e x=some (.map (some m))) (hy:val e y=some (κ k)) (hm:MapG κ ok w m f) (hf:f k=some v) (hkl:ok k) (hd:Nat.blt d n=true)
  (kk:TL P n ops rest ((d,v)::e) w Q):TL P n ops (⟨some d,.lookup t x y false,ty,pos,aft,none⟩::rest) e w Q :=
 TL.run (λ r hr=>by
  obtain ⟨es,c,h1,h2,h3,h4,h5⟩:=hm.find hk hkl
  rw [hf] at h2
  obtain ⟨j,e0,g1,g2,g3⟩:=h2
  simp [execOp,hr.eval hx,hr.eval hy,Instr.lookup,run_underlying ht.und,MapKept.run_getObj_map h1,hk.keyed.check w _ (hk.key k hkl).choose_spec,g1,Result.andThen]) hd kk
def upG [DecidableEq α] (f : α→Option Value) (k : α) (u:Value) : α→Option Value:=λ j=>if j=k then some u else f j
theorem run_mapUpdateG [DecidableEq α] {t kt el m:Nat} {k : α} {f : α→Option Value} {u:Value} (ht:MapTy P t kt el) (hk:KeyIs P kt κ ok) (hm:MapG κ ok w m f) (hkl:ok k) :
  ∃ w',(Instr.mapUpdate t (.map (some m)) (κ k) u).run P w=.ok () w'∧Upd m w w'∧MapG κ ok w' m (upG f k u):=by
 obtain ⟨es,c,h1,h2,h3,h4,h5⟩:=hm.find hk hkl
 have hlt:=(Array.getElem?_eq_some_iff.1 h1).1
 cases hf:f k with
 | none =>
  rw [hf] at h2
  obtain ⟨g1,g2⟩:=h2
  refine ⟨setBlock w m (.map (es.push ⟨κ k,u,c⟩) (c+1)),?_,⟨rfl,rfl,rfl,by simp [setBlock],λ i hi=>heap_setBlock_other h1 _ (λ e=>hi e)⟩,_,_,heap_setBlock_same h1 _,λ x hx=>?_,λ j v hj=>?_,?_⟩
  ·simp [Instr.mapUpdate,run_underlying ht.und,MapKept.run_getObj_map h1,hk.keyed.check w _ (hk.key k hkl).choose_spec,g1,MapKept.run_setObj_map _ h1,Result.andThen,setBlock]
  ·simp only [Array.toList_push,List.mem_append,List.mem_singleton] at hx
   rcases hx with hx|rfl
   ·obtain ⟨i,hi,e1,e2⟩:=h3 x hx
    refine ⟨i,hi,e1,?_⟩
    unfold upG
    rw [if_neg (λ e=>g2 x hx (by rw [e1,e])),e2]
   ·exact ⟨k,hkl,rfl,by simp [upG]⟩
  ·unfold upG at hj
   split at hj
   ·rename_i he
    subst he
    exact ⟨hkl,⟨κ j,u,c⟩,by simp,rfl⟩
   ·obtain ⟨ho,x,hx,e1⟩:=h4 j v hj
    exact ⟨ho,x,by simp [hx],e1⟩
  ·rw [Array.toList_push]
   exact List.pairwise_append.2 ⟨h5,by simp,λ x hx y hy=>by simp only [List.mem_singleton] at hy;subst hy;exact g2 x hx⟩
 | some v0 =>
  rw [hf] at h2
  obtain ⟨j,e0,g1,g2,g3⟩:=h2
  have g2':es[j]? = some e0:=by simpa using g2
  refine ⟨setBlock w m (.map (es.modify j λ e=>{ e with key:=κ k,val:=u }) c),?_,⟨rfl,rfl,rfl,by simp [setBlock],λ i hi=>heap_setBlock_other h1 _ (λ e=>hi e)⟩,_,_,heap_setBlock_same h1 _,λ x hx=>?_,λ i v hi=>?_,?_⟩
  ·simp [Instr.mapUpdate,run_underlying ht.und,MapKept.run_getObj_map h1,hk.keyed.check w _ (hk.key k hkl).choose_spec,g1,g2',g3,hk.keyed.stays w (hk.key k hkl).choose_spec,MapKept.run_setObj_map _ h1,Result.andThen,setBlock]
  ·obtain ⟨i,hi,rfl⟩:=List.mem_iff_getElem.1 hx
   have hi':i<es.size:=by simpa using hi
   have ei:(es.modify j λ e=>{ e with key:=κ k,val:=u }).toList[i]=if j=i then { es[i] with key:=κ k,val:=u } else es[i]:=by
    simp [List.getElem_modify]
   rw [ei]
   by_cases hji:j=i
   ·rw [if_pos hji]
    exact ⟨k,hkl,rfl,by simp [upG]⟩
   ·rw [if_neg hji]
    obtain ⟨n,hn,e1,e2⟩:=h3 es[i] (by simp)
    refine ⟨n,hn,e1,?_⟩
    unfold upG
    rw [if_neg ?_,e2]
    intro e
    subst e
    have hj':=List.getElem?_eq_some_iff.1 g2
    obtain ⟨hjl,hje⟩:=hj'
    have hp:=List.pairwise_iff_getElem.1 h5
    have hil:i<es.toList.length:=by simpa using hi'
    have ek:es.toList[i].key=e0.key:=by rw [g3];simpa using e1
    rcases Nat.lt_or_gt_of_ne hji with h|h
    ·exact hp j i hjl hil h (by rw [hje,ek])
    ·exact hp i j hil hjl h (by rw [hje,ek])
  ·have hmem:∀ x∈es.toList,∃ y∈(es.modify j λ e=>{ e with key:=κ k,val:=u }).toList,y.key=x.key:=by
    intro x hx
    obtain ⟨i,hi,rfl⟩:=List.mem_iff_getElem.1 hx
    have hi':i<es.size:=by simpa using hi
    refine ⟨(es.modify j λ e=>{ e with key:=κ k,val:=u }).toList[i]'(by simpa using hi'),List.getElem_mem _,?_⟩
    have ei:(es.modify j λ e=>{ e with key:=κ k,val:=u }).toList[i]'(by simpa using hi')=if j=i then { es[i] with key:=κ k,val:=u } else es[i]:=by
     simp [List.getElem_modify]
    rw [ei]
    by_cases hji:j=i
    ·rw [if_pos hji]
     subst hji
     have:=(List.getElem?_eq_some_iff.1 g2).2
     rw [this,g3]
    ·rw [if_neg hji];simp
   unfold upG at hi
   split at hi
   ·rename_i he
    obtain ⟨y,hy,e1⟩:=hmem e0 (List.mem_of_getElem? g2)
    exact ⟨by rw [he];exact hkl,y,hy,by rw [e1,g3,he]⟩
   ·obtain ⟨ho,x,hx,e1⟩:=h4 i v hi
    obtain ⟨y,hy,e2⟩:=hmem x hx
    exact ⟨ho,y,hy,by rw [e2,e1]⟩
  ·have hkeys:(es.modify j λ e=>{ e with key:=κ k,val:=u }).toList.map (·.key)=es.toList.map (·.key):=by
    apply List.ext_getElem
    ·simp
    ·intro i h1' h2'
     have hi':i<es.size:=by simpa using h2'
     simp only [List.getElem_map]
     have ei:(es.modify j λ e=>{ e with key:=κ k,val:=u }).toList[i]'(by simpa using hi')=if j=i then { es[i] with key:=κ k,val:=u } else es[i]:=by
      simp [List.getElem_modify]
     rw [ei]
     by_cases hji:j=i
     ·rw [if_pos hji]
      subst hji
      have:=(List.getElem?_eq_some_iff.1 g2).2
      rw [this,g3]
     ·rw [if_neg hji];simp
   have h6:(es.toList.map (·.key)).Pairwise (·≠·):=List.pairwise_map.2 h5
   rw [← hkeys] at h6
   exact List.pairwise_map.1 h6
theorem TL.updateG [DecidableEq α] {t kt el m:Nat} {k : α} {x y v:Operand} {f : α→Option Value} {u:Value} [ht:MapTy P t kt el] [hk:KeyIs P kt κ ok] (hx:val e x=some (.map (some m))) (hy:val e y=some (κ k)) (hv:val e v=some u) (hm:MapG κ ok w m f) (hkl:ok k)
  (kk:∀ w',Upd m w w'→MapG κ ok w' m (upG f k u)→TL P n ops rest e w' Q):TL P n ops (⟨none,.mapUpdate t x y v,ty,pos,aft,none⟩::rest) e w Q:=by
 obtain ⟨w',h1,h2,h3⟩:=run_mapUpdateG (u:=u) ht hk hm hkl
 exact mE (w':=w') (λ r hr=>by simp [execOp,hr.eval hx,hr.eval hy,hr.eval hv,h1]) (kk w' h2 h3)
end
def okS (l:List Nat):Prop:=(∀ x∈l,x<256)∧l.length≤1000000
def keyS (l:List Nat):Value:=.string (iH l)
theorem keyS_is {P:Program} {kt:TypeId} (h:StrTy P kt):KeyIs P kt keyS okS where
 keyed:=Maps.string_keyed h.und
 key:=λ a ha=>⟨_,WideMaps.keyOf_string_mk h.und (by rw [txt_size];have:=ha.2;unfold maxLen;omega)⟩
 inj:=λ a b ha hb e=>by
  simp only [keyS,Value.string.injEq] at e
  have:=txt_eq ha.1 hb.1
  rw [e] at this
  simpa using this
end Go.V
