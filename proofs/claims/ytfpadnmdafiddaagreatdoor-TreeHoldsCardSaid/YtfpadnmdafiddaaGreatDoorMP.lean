import Derived.Test.YtfpadnmdafiddaaGreatDoorMK
set_option linter.all false
set_option maxHeartbeats 16000000
set_option maxRecDepth 100000
namespace Go.V
open Go Go.RowKit Go.ChangeShapes Go.WideShapes Go.MapKept Go.ChangeMaps
theorem nodup_leG {α : Type} [DecidableEq α]:∀ {l r:List α},l.Nodup→(∀ x∈l,x∈r)→l.length≤r.length
 | [],r,_,_=>Nat.zero_le _
 | x::l,r,h,hs=>by
  obtain ⟨h1,h2⟩:=List.nodup_cons.1 h
  have hx:=hs x (by simp)
  have:=nodup_leG (l:=l) (r:=r.erase x) h2 λ y hy=>(List.mem_erase_of_ne (λ e=>h1 (by rw [← e];exact hy))).2 (hs y (List.mem_cons_of_mem _ hy))
  rw [List.length_erase_of_mem hx] at this
  have hp:=List.length_pos_of_mem hx
  rw [List.length_cons]
  omega
theorem keysG {α : Type} {κ : α→Value} {ok : α→Prop} {f : α→Option Value}:∀ {es:List MapEntry},(∀ x∈es,∃ n : α,ok n∧x.key = κ n∧f n=some x.val)→∃ ks:List α,es.map (·.key)=ks.map κ∧∀ k∈ks,ok k∧∃ v,f k=some v
 | [],_=>⟨[],rfl,by simp⟩
 | x::es,h=>by
  obtain ⟨n,h1,h2,h3⟩:=h x (by simp)
  obtain ⟨ks,k1,k2⟩:=keysG (es:=es) λ y hy=>h y (List.mem_cons_of_mem _ hy)
  refine ⟨n::ks,by simp [h2,k1],λ k hk=>?_⟩
  rcases List.mem_cons.1 hk with rfl|hk
  ·exact ⟨h1,_,h3⟩
  ·exact k2 k hk
def delF {α : Type} [DecidableEq α] (f : α→Option Value) (k : α) : α→Option Value:=λ j=>if j=k then none else f j
section
variable [Rn]
variable {P:Program} {n:Nat} {e:dQ} {w w':World} {Q:dS} {ops:Array Oper} {rest:List Oper} {d:Nat} {ty:TypeId} {pos:String} {aft:Array Edge} {α : Type} {κ : α→Value} {ok : α→Prop}
theorem MapG.size [DecidableEq α] {m:Nat} {f : α→Option Value} (h:MapG κ ok w m f) (inj:∀ a b,ok a→ok b→κ a = κ b→a=b) {ks:List α} (hnd:ks.Nodup) (hk:∀ k,(∃ v,f k=some v)↔k∈ks):∃ es c,w.heap[m]? = some (.map es c)∧es.size=ks.length:=by
 obtain ⟨es,c,h1,h2,h3,h4⟩:=h
 refine ⟨es,c,h1,?_⟩
 obtain ⟨ns,n1,n2⟩:=keysG h2
 have hnn:ns.Nodup:=by
  have h5:(es.toList.map (·.key)).Pairwise (·≠·):=List.pairwise_map.2 h4
  rw [n1] at h5
  exact (List.pairwise_map.1 h5).imp λ h e=>h (by rw [e])
 have hl:es.size=ns.length:=by have:=congrArg List.length n1;simpa using this
 have a:=nodup_leG hnn λ x hx=>(hk x).1 (n2 x hx).2
 have b:=nodup_leG hnd λ x hx=>by
  obtain ⟨v,hv⟩:=(hk x).2 hx
  obtain ⟨hox,y,hy,e⟩:=h3 x v hv
  have:=List.mem_map_of_mem (f:=λ x:MapEntry=>x.key) hy
  rw [n1,e] at this
  obtain ⟨z,hz,e2⟩:=List.mem_map.1 this
  exact (inj _ _ (n2 z hz).1 hox e2)▸hz
 omega
theorem TL.lenMap {t kt el m N:Nat} {x:Operand} [ht:MapTy P t kt el] (hx:val e x=some (.map (some m))) (hm:∃ es c,w.heap[m]? = some (.map es c)∧es.size=N) (hd:Nat.blt d n=true)
  (kk:TL P n ops rest ((d,.int .i64 (N:Int))::e) w Q):TL P n ops (⟨some d,.call ⟨.builtin .len,#[x],#[t]⟩,ty,pos,aft,none⟩::rest) e w Q:=by
 obtain ⟨es,c,h1,rfl⟩:=hm
 refine TL.run (λ r hr=>?_) hd kk
 simp [execOp,resolve,invoke,builtin,hr.eval hx,Builtin.len_,run_underlying ht.und,run_getObj_map w m es c h1,goInt]
theorem run_delG [DecidableEq α] {t kt el m:Nat} {ty:TypeId} {k : α} {f : α→Option Value} {v0:Value} (ht:MapTy P t kt el) (hk:KeyIs P kt κ ok) (hm:MapG κ ok w m f) (hf:f k=some v0) (hkl:ok k) :
  ∃ w',(Builtin.delete_ #[t,kt] ty #[.map (some m),κ k]).run P w=.ok (.tuple #[]) w'∧Upd m w w'∧MapG κ ok w' m (delF f k):=by
 obtain ⟨es,c,h1,h2,h3,h4,h5⟩:=hm.find hk hkl
 rw [hf] at h2
 obtain ⟨j,e0,g1,g2,g3⟩:=h2
 have hjl:j<es.size:=by have:=(List.getElem?_eq_some_iff.1 g2).1;simpa using this
 have hel:(es.eraseIdxIfInBounds j).toList=es.toList.eraseIdx j:=by
  rw [Array.eraseIdxIfInBounds,dif_pos hjl,Array.toList_eraseIdx]
 have hje:=(List.getElem?_eq_some_iff.1 g2).2
 have hpw:=List.pairwise_iff_getElem.1 h5
 have hjl':j<es.toList.length:=by simpa using hjl
 have hkey:∀ x∈es.toList.eraseIdx j,x.key≠κ k:=λ x hx e=>by
  obtain ⟨i,hi,hxi⟩:=List.getElem_of_mem hx
  rw [List.getElem_eraseIdx] at hxi
  rw [List.length_eraseIdx_of_lt hjl'] at hi
  split at hxi
  ·rename_i hij
   have:=hpw i j (by omega) hjl' hij
   rw [hxi,hje,g3,e] at this
   exact this rfl
  ·rename_i hij
   have:=hpw j (i+1) hjl' (by omega) (by omega)
   rw [hxi,hje,g3,e] at this
   exact this rfl
 refine ⟨setBlock w m (.map (es.eraseIdxIfInBounds j) c),?_,⟨rfl,rfl,rfl,by simp [setBlock],λ i hi=>heap_setBlock_other h1 _ (λ e=>hi e)⟩,_,_,heap_setBlock_same h1 _,λ x hx=>?_,λ i v hi=>?_,?_⟩
 ·simp [Builtin.delete_,run_underlying ht.und,MapKept.run_getObj_map h1,hk.keyed.check w _ (hk.key k hkl).choose_spec,g1,MapKept.run_setObj_map _ h1,Result.andThen,setBlock]
 ·rw [hel] at hx
  obtain ⟨n,hn,e1,e2⟩:=h3 x (List.mem_of_mem_eraseIdx hx)
  refine ⟨n,hn,e1,?_⟩
  unfold delF
  rw [if_neg (λ e=>hkey x hx (by rw [e1,e])),e2]
 ·unfold delF at hi
  split at hi
  ·cases hi
  ·rename_i hne
   obtain ⟨ho,x,hx,e1⟩:=h4 i v hi
   refine ⟨ho,x,?_,e1⟩
   rw [hel,List.mem_eraseIdx_iff_getElem?]
   obtain ⟨q,hq⟩:=List.getElem?_of_mem hx
   refine ⟨q,λ e=>?_,hq⟩
   subst e
   rw [g2] at hq
   cases hq
   rw [g3] at e1
   exact hne (hk.inj _ _ ho hkl e1.symm)
 ·rw [hel]
  exact h5.sublist (List.eraseIdx_sublist _ _)
theorem TL.run_none {op:Op} {v:Value} (h:∀ a,Fits n e a→(execOp a.eval ⟨none,op,ty,pos,aft,none⟩).run P w=.ok (.value v) w') (k:TL P n ops rest e w' Q):TL P n ops (⟨none,op,ty,pos,aft,none⟩::rest) e w Q :=
 TL.mk λ a ha=>wpListIn_plain rfl λ K hK=>Oper.wpFR _ (.inl ⟨_,_,h a ha,hK _ _ (TL.out k ha)⟩)
theorem TL.delG [DecidableEq α] {t kt el m:Nat} {k : α} {x y:Operand} {f : α→Option Value} {v0:Value} [ht:MapTy P t kt el] [hk:KeyIs P kt κ ok] (hx:val e x=some (.map (some m))) (hy:val e y=some (κ k)) (hm:MapG κ ok w m f) (hf:f k=some v0) (hkl:ok k)
  (kk:∀ w',Upd m w w'→MapG κ ok w' m (delF f k)→TL P n ops rest e w' Q):TL P n ops (⟨none,.call ⟨.builtin .delete,#[x,y],#[t,kt]⟩,ty,pos,aft,none⟩::rest) e w Q:=by
 obtain ⟨w',h1,h2,h3⟩:=run_delG (ty:=ty) ht hk hm hf hkl
 exact TL.run_none (v:=.tuple #[]) (w':=w') (λ r hr=>by simp [execOp,resolve,invoke,builtin,hr.eval hx,hr.eval hy,h1]) (kk w' h2 h3)
theorem TL.isDelete {x y:Operand} {ts:Array TypeId} {d:Option Nat} (h:TL P n ops (⟨d,.call ⟨.builtin .delete,#[x,y],ts⟩,ty,pos,aft,none⟩::rest) e w Q):TL P n ops (⟨d,.call ⟨.builtin .delete,#[x,y],ts⟩,ty,pos,aft,none⟩::rest) e w Q:=h
theorem TL.geS {x y:Operand} {s t:ByteArray} {t1 t2:TypeId} {b:Bool} (hx:val e x=some (.string s)) (hy:val e y=some (.string t)) (h:(!(Op.bytesLess s.toList t.toList))=b) (hd:Nat.blt d n=true)
  (k:TL P n ops rest ((d,.bool b)::e) w Q):TL P n ops (⟨some d,.binOp .geq t1 x y t2,ty,pos,aft,none⟩::rest) e w Q :=
 TL.run (λ r hr=>by
  have hg:eqGuard .geq t1 x y (.string s) (.string t)=Pure.pure ():=rfl
  simp only [execOp,hr.eval hx,hr.eval hy,hg]
  simp [binOp,Op.stringOp,← h]) hd k
end
end Go.V
