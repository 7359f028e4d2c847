import Derived.Test.YtfpadnmdafiddaaGreatDoorMb
import Derived.Test.YtfpadnmdafiddaaGreatDoorMN
import Derived.Lib.LaidTab
import Derived.LaidLaws
set_option linter.all false
set_option maxHeartbeats 16000000
set_option maxRecDepth 100000
namespace Go.Proofs.YtfpadnmdafiddaaGreatDoor
open Go Go.RowKit Go.V Go.ChangeShapes Go.WideShapes Go.ChangeAt
set_option maxRecDepth 100000
theorem tab_laid {W:World} {name:String} {zs:List Int} (hz:zs=tabB.map λ (x:Nat)=>(x:Int)) (hg:(Tryz.prog).globalNamed name=some 0) (hty:((Tryz.prog).globals[0]?).map (·.type)=some 238) (h:laidMet Tryz.prog [(name,Lib.tabData .u8 zs)] W):TabAt W:=by
 have hT:=Lib.tabIs_of_head hg hty Tryz.underlying238 Tryz.underlying5 (by kernel_rfl) (by kernel_rfl) h
 obtain ⟨arr,t,fr,hb,ha⟩:∃ arr t fr,W.heap[0]? = some (.cells arr t fr)∧arr=(zs.map λ z=>Value.int .u8 z).toArray:=by
  unfold Lib.TabIs World.var? at hT
  rw [hg] at hT
  simp only [Option.bind_some] at hT
  split at hT
  ·rename_i cs t fr hb
   exact ⟨cs,t,fr,hb,Option.some.inj hT⟩
  ·cases hT
 refine ⟨(Array.getElem?_eq_some_iff.1 hb).1,λ j x hj=>?_⟩
 simp only [World.cell?,hb]
 rw [ha,hz]
 simp [hj]
section
variable {H:Type} {enc:TypeId×Value→H} {P:Program} {W:World}
theorem flat_len {L:List (List Value)} {sz:Nat} (h:∀ x∈L,x.length=sz):L.flatten.length=L.length*sz:=by
 induction L with
 | nil=>simp
 | cons x r ih =>
  rw [List.flatten_cons,List.length_append,ih λ y hy=>h y (List.mem_cons_of_mem _ hy),h x (by simp),List.length_cons,Nat.add_mul]
  omega
theorem flat_at {sz:Nat}:∀ {L:List (List Value)} {i r:Nat} {x:List Value},(∀ x∈L,x.length=sz)→L[i]? = some x→r<sz→L.flatten[i*sz+r]? = x[r]?
 | [],i,r,x,_,hx,_=>by simp at hx
 | y::L,0,r,x,h,hx,hr=>by
  simp only [List.getElem?_cons_zero,Option.some.injEq] at hx
  subst hx
  rw [List.flatten_cons,List.getElem?_append_left (by rw [h y (by simp)];omega)]
  simp
 | y::L,i+1,r,x,h,hx,hr=>by
  rw [List.flatten_cons,List.getElem?_append_right (by rw [h y (by simp),Nat.add_mul];omega),h y (by simp),show (i+1)*sz+r-sz=i*sz+r by rw [Nat.add_mul];omega]
  exact flat_at (λ z hz=>h z (List.mem_cons_of_mem _ hz)) (by simpa using hx) hr
theorem sls_in {t e:TypeId} {sz fuel:Nat} {c:Value} {x:DataW H×List MemPlace} (ht:P.underlying t=some (.slice e)) (hc:P.cellsOf e=sz) (h0:0<sz) (h:DataW.trod enc P W 0 (λ _=>true) true fuel t [c]=some x) :
  ∃ (a:Option Addr) (n m:Nat) (css:List (List Value)),c=.slice a n m∧css.length=n∧Sl (λ k=>k<W.heap.size) W sz a n m css.flatten∧∀ q∈css,q.length=sz∧∃ f y,DataW.trod enc P W 0 (λ _=>true) true f e q=some y:=by
 rcases DataW.trod_slice ht h with ⟨hcs,_⟩|⟨p,len,cap,elems,rest,n,_,hcs,_,hb,hl,hm,hlen,hel,_,_⟩
 ·simp only [List.cons.injEq,and_true] at hcs
  subst hcs
  exact ⟨none,0,0,[],rfl,rfl,Sl.nil_mk _ _ _,by simp⟩
 ·simp only [List.cons.injEq,and_true] at hcs
  subst hcs
  have each:∀ i,i<len→∃ q y,W.cells? 0 (p.add (i*sz)) sz=some q∧DataW.trod enc P W 0 (λ _=>true) true n e q=some y:=λ i hi=>by
   have h1:=hel i hi
   rw [hc,List.getElem?_eq_getElem (by omega),Option.bind_eq_some_iff] at h1
   obtain ⟨q,h2,h3⟩:=h1
   exact ⟨q,_,h2,h3⟩
  have hat:∀ i,i<len→((List.range len).map λ i=>(W.cells? 0 (p.add (i*sz)) sz).getD [])[i]? = W.cells? 0 (p.add (i*sz)) sz:=λ i hi=>by
   obtain ⟨q,y,h1,_⟩:=each i hi
   rw [List.getElem?_map,List.getElem?_range hi,Option.map_some,h1]
   rfl
  have hall:∀ q∈(List.range len).map (λ i=>(W.cells? 0 (p.add (i*sz)) sz).getD []),q.length=sz∧∃ f y,DataW.trod enc P W 0 (λ _=>true) true f e q=some y:=λ q hq=>by
   obtain ⟨i,hi,rfl⟩:=List.mem_map.1 hq
   obtain ⟨q,y,h1,h2⟩:=each i (List.mem_range.1 hi)
   rw [h1]
   exact ⟨(World.cells?_some h1).2.1,n,y,h2⟩
  refine ⟨some p,len,cap,(List.range len).map λ i=>(W.cells? 0 (p.add (i*sz)) sz).getD [],rfl,by simp,⟨by rw [flat_len λ q hq=>(hall q hq).1];simp,hl,hm,(λ h=>by cases h),λ hn=>?_⟩,hall⟩
  have hpos:0<len:=by
   rcases Nat.eq_zero_or_pos len with h|h
   ·subst h;simp at hn
   ·exact h
  obtain ⟨q,y,h1,_⟩:=each 0 hpos
  have h2:=(World.cells?_some h1).2.2 0 h0
  have hq0:0<q.length:=by rw [(World.cells?_some h1).2.1];exact h0
  rw [List.getElem?_eq_getElem hq0,Nat.zero_mul,show (p.add 0).add 0=p from rfl] at h2
  have hs:p.spot=none:=World.cell?_spot h2
  obtain ⟨b,o,s⟩:=p
  simp only at hs
  subst hs
  have hblt:=World.block_lt_of_cell? W _ h2
  simp only at hblt
  have hcell:∀ i r v,i<len→r<sz→(((List.range len).map λ i=>(W.cells? 0 ((⟨b,o,none⟩:Addr).add (i*sz)) sz).getD []).flatten)[i*sz+r]? = some v→W.cell? ⟨b,o+(i*sz+r),none⟩=some v:=λ i r v hi hr hv=>by
   obtain ⟨q,y,h1,_⟩:=each i hi
   rw [flat_at (λ q hq=>(hall q hq).1) ((hat i hi).trans h1) hr] at hv
   have h2:=(World.cells?_some h1).2.2 r hr
   rw [← hv,← h2,Addr.add_lit,Addr.add_lit,Nat.add_assoc]
  refine ⟨rfl,hblt,hblt,λ j v hj=>?_⟩
  have hjl:=(List.getElem?_eq_some_iff.1 hj).1
  rw [flat_len λ q hq=>(hall q hq).1,List.length_map,List.length_range] at hjl
  have:=hcell (j / sz) (j%sz) v (Nat.div_lt_of_lt_mul (by rw [Nat.mul_comm];exact hjl)) (Nat.mod_lt _ h0) (by rw [Nat.mul_comm,Nat.div_add_mod];exact hj)
  rw [Nat.mul_comm,Nat.div_add_mod] at this
  exact this
theorem bytes_in:∀ (l:List Int),(∀ z∈l,(Lit.int .u8 z).wf=true)→∃ r:List Nat,l.map (Value.int .u8)=cX r∧∀ x∈r,x<256
 | [],_=>⟨[],rfl,by simp⟩
 | z::l,h=>by
  obtain ⟨r,h1,h2⟩:=bytes_in l (λ y hy=>h y (List.mem_cons_of_mem _ hy))
  have hz:=h z (by simp)
  have hz2:0≤z∧z≤255:=by simpa [Lit.wf,IntKind.min,IntKind.max,IntKind.signed,IntKind.bits] using hz
  refine ⟨z.toNat::r,?_,?_⟩
  ·simp only [List.map_cons,cX,h1]
   congr 2
   omega
  ·intro x hx
   rcases List.mem_cons.1 hx with rfl|hx
   ·omega
   ·exact h2 x hx
theorem bs_in {t e:TypeId} {fuel:Nat} {c:Value} {x:DataW H×List MemPlace} (ht:P.underlying t=some (.slice e)) (he:P.underlying e=some (.int .u8)) (hc:P.cellsOf e=1) (h:DataW.trod enc P W 0 (λ _=>true) true fuel t [c]=some x) :
  ∃ b,BsAt (λ k=>k<W.heap.size) W c b∧kD b:=by
 obtain ⟨a,n,m,zs,rfl,hs,hz⟩:=sl_in ht he hc h
 obtain ⟨r,h1,h2⟩:=bytes_in zs hz
 rw [h1] at hs
 exact ⟨r,⟨a,n,m,rfl,hs⟩,h2⟩
end
theorem acts_in {H:Type} {enc:TypeId×Value→H} {W:World}:∀ {css:List (List Value)},(∀ q∈css,q.length=3∧∃ f y,DataW.trod enc Tryz.prog W 0 (λ _=>true) true f 32 q=some y) →
  ∃ l:List (Int×Bs×Bs),ActCells (λ k=>k<W.heap.size) W css.flatten l∧l.length=css.length∧∀ x∈l,(-9223372036854775808≤x.1∧x.1≤9223372036854775807)∧kD x.2.1∧kD x.2.2
 | [],_=>⟨[],trivial,rfl,by simp⟩
 | q::css,h=>by
  obtain ⟨l,h1,h2,h3⟩:=acts_in (λ y hy=>h y (List.mem_cons_of_mem _ hy))
  obtain ⟨hq,f,y,hy⟩:=h q (by simp)
  match q,hq with
  | [c0,c1,c2],_ =>
   obtain ⟨xs,n,_,_,_,hxl,hat⟩:=DataW.trod_struct Tryz.underlying32 hy
   have e0:=hat 0 _ rfl
   have e1:=hat 1 _ rfl
   have e2:=hat 2 _ rfl
   have hxl3:xs.length=3:=hxl
   rw [List.getElem?_eq_getElem (by omega)] at e0 e1 e2
   obtain ⟨k,ek,_,hw⟩:=DataW.trod_int Tryz.underlying3 e0
   obtain ⟨b1,hb1,hy1⟩:=bs_in (c:=c1) Tryz.underlying30 Tryz.underlying5 (by kernel_rfl) e1
   obtain ⟨b2,hb2,hy2⟩:=bs_in (c:=c2) Tryz.underlying30 Tryz.underlying5 (by kernel_rfl) e2
   have ek2:c0=.int .i64 k:=by
    have:[c0]=[Value.int .i64 k]:=ek
    simpa using this
   have hk : -9223372036854775808≤k∧k≤9223372036854775807:=by simpa [Lit.wf,IntKind.min,IntKind.max,IntKind.signed,IntKind.bits] using hw
   refine ⟨(k,b1,b2)::l,⟨⟨ek2,hb1,hb2⟩,h1⟩,by simp [h2],λ x hx=>?_⟩
   rcases List.mem_cons.1 hx with rfl|hx
   ·exact ⟨hk,hy1,hy2⟩
   ·exact h3 x hx
end Go.Proofs.YtfpadnmdafiddaaGreatDoor
