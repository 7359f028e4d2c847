import Derived.Test.YtfpadnmdafiddaaGreatDoorKg
import Derived.Test.YtfpadnmdafiddaaGreatDoorKj
set_option linter.all false
set_option maxHeartbeats 16000000
set_option maxRecDepth 100000
namespace Go.Proofs.YtfpadnmdafiddaaGreatDoor
open Go Go.RowKit Go.V Go.ChangeShapes Go.WideShapes Go.ChangeAt
set_option maxRecDepth 100000
theorem act4_in {H:Type} {enc:TypeId×Value→H} {W:World} {q:List Value} (hq:q.length=4) (h:∃ f y,DataW.trod enc Tryz.prog W 0 (λ _=>true) true f 127 q=some y) :
  ∃ x:Int×Int×Bs×Bool,(∃ k,q=[.int .i64 x.1,.int .i64 x.2.1,k,.bool x.2.2.2]∧BsAt (λ k=>k<W.heap.size) W k x.2.2.1)∧((-9223372036854775808≤x.1∧x.1≤9223372036854775807)∧(-9223372036854775808≤x.2.1∧x.2.1≤9223372036854775807))∧kW x.2.2.1:=by
 obtain ⟨f,y,hy⟩:=h
 match q,hq with
 | [c0,c1,c2,c3],_ =>
  obtain ⟨xs,n,_,_,_,hxl,hat⟩:=DataW.trod_struct Tryz.underlying127 hy
  have e0:=hat 0 _ rfl
  have e1:=hat 1 _ rfl
  have e2:=hat 2 _ rfl
  have e3:=hat 3 _ rfl
  have hxl3:xs.length=4:=hxl
  rw [List.getElem?_eq_getElem (by omega)] at e0 e1 e2 e3
  obtain ⟨k,ek,_,hw⟩:=DataW.trod_int Tryz.underlying3 e0
  obtain ⟨m,em,_,hm⟩:=DataW.trod_int Tryz.underlying3 e1
  obtain ⟨b1,hb1,hy1⟩:=bs_in (c:=c2) Tryz.underlying30 Tryz.underlying5 (by kernel_rfl) e2
  obtain ⟨b,eb,_⟩:=DataW.trod_bool Tryz.underlying4 e3
  have ek2:c0=.int .i64 k:=by
   have:[c0]=[Value.int .i64 k]:=ek
   simpa using this
  have em2:c1=.int .i64 m:=by
   have:[c1]=[Value.int .i64 m]:=em
   simpa using this
  have eb2:c3=.bool b:=by
   have:[c3]=[Value.bool b]:=eb
   simpa using this
  have hk : -9223372036854775808≤k∧k≤9223372036854775807:=by simpa [Lit.wf,IntKind.min,IntKind.max,IntKind.signed,IntKind.bits] using hw
  have hm : -9223372036854775808≤m∧m≤9223372036854775807:=by simpa [Lit.wf,IntKind.min,IntKind.max,IntKind.signed,IntKind.bits] using hm
  exact ⟨(k,m,b1,b),⟨c2,by rw [ek2,em2,eb2],hb1⟩,⟨hk,hm⟩,hy1⟩
theorem rows_in {α β : Type} {R : α→β→Prop}:∀ {l:List α},(∀ q∈l,∃ x,R q x)→∃ r:List β,r.length=l.length∧(∀ (i:Nat) (x : β),r[i]? = some x→∃ q,l[i]? = some q∧R q x)∧∀ x∈r,∃ q,R q x
 | [],_=>⟨[],rfl,by simp,by simp⟩
 | q::l,h=>by
  obtain ⟨r,h1,h2,h3⟩:=rows_in (l:=l) λ y hy=>h y (List.mem_cons_of_mem _ hy)
  obtain ⟨x,hx⟩:=h q (by simp)
  refine ⟨x::r,by simp [h1],λ i y hi=>?_,λ y hy=>?_⟩
  ·cases i with
   | zero =>
    simp only [List.getElem?_cons_zero,Option.some.injEq] at hi
    subst hi
    exact ⟨q,rfl,hx⟩
   | succ i=>exact h2 i y (by simpa using hi)
  ·rcases List.mem_cons.1 hy with rfl|hy
   ·exact ⟨q,hx⟩
   ·exact h3 y hy
theorem acts4_in {H:Type} {enc:TypeId×Value→H} {W:World} {css:List (List Value)} (h:∀ q∈css,q.length=4∧∃ f y,DataW.trod enc Tryz.prog W 0 (λ _=>true) true f 127 q=some y) :
  ∃ l:ActL,ActV (λ k=>k<W.heap.size) W css.flatten l∧l.length=css.length∧∀ x∈l,((-9223372036854775808≤x.1∧x.1≤9223372036854775807)∧(-9223372036854775808≤x.2.1∧x.2.1≤9223372036854775807))∧kW x.2.2.1:=by
 obtain ⟨l,h1,h2,h3⟩:=rows_in λ q hq=>act4_in (h q hq).1 (h q hq).2
 refine ⟨l,λ i x hx=>?_,h1,λ x hx=>(h3 x hx).elim λ q hq=>hq.2⟩
 obtain ⟨q,hq,⟨k,e,hk⟩,_⟩:=h2 i x hx
 have hat:=λ r hr=>flat_at (r:=r) (λ y hy=>(h y hy).1) hq hr
 subst e
 exact ⟨by have:=hat 0 (by omega);simpa using this,by have:=hat 1 (by omega);simpa using this,⟨k,by have:=hat 2 (by omega);simpa using this,hk⟩,by have:=hat 3 (by omega);simpa using this⟩
end Go.Proofs.YtfpadnmdafiddaaGreatDoor
