import Derived.Test.YtfpadnmdafiddaaGreatDoorMc
import Derived.Shelf.SlIterI.Sorted
set_option linter.all false
set_option maxHeartbeats 16000000
set_option maxRecDepth 100000
namespace Go.Proofs
open Go Go.RowKit Go.V Go.Maps Go.Sort Go.Shelf Go.WideShapes
set_option maxRecDepth 20000
theorem sorted_g {P:Program} {ρ1 ρ2:Ren} (L10:SlLaysZI.n10 P ρ1) (L6:SlLaysZI.n6 P ρ2) (ht : ρ1.t 26 = ρ2.t 26) (hS:AnyZI.SortsIn P ρ2 Fence.wide 4) (e9:∀ args w,(callFunc (ρ2.f 9) args).run P w=.ok (.enter (ρ2.f 9) args) w) (eg:∀ args w,(callFunc (ρ1.f 10) args).run P w=.ok (.enter (ρ1.f 10) args) w) (w:World) (c mb:Nat) (L:List MapEntry) (clock:Nat) (ks ls:List Nat) (tc:TypeId) (fr:Nat×Nat)
  (hc:w.heap[c]? = some (.cells #[.map (some mb)] tc fr)) (hb:w.heap[mb]? = some (.map L.toArray clock)) (hk:L.map (·.key)=ks.map λ x=>Value.int .i64 (x:Nat)) (hlt:∀ x∈ks,x<9223372036854775808)
  (hborn:∀ m∈L,m.born<clock) (hbn:(L.map (·.born)).Pairwise (· < ·)) (hlen:ks.length≤1000000) (hp:ls.Perm ks) (hs:ls.Pairwise (· < ·)) :
  Calls P (ρ2.f 6) #[.func (.func (ρ1.f 10)) #[] #[.pointer (some ⟨c,0,none⟩)]] w (Ret λ y w'=>Grow w w'∧((ls=[]∧y=.slice none 0 0) ∨
   (ls≠[]∧∃ g cap cur,y=.slice (some ⟨g,0,none⟩) ls.length cap∧w.heap.size≤g∧w'.heap[g]? = some (.cells cur (ρ2.t 26) (0,0))∧ls.length≤cap∧cap≤maxLen∧cur.size=cap∧∀ (i:Nat) (v:Value),(ls.map λ x=>Value.int .i64 (x:Nat))[i]? = some v→cur[i]? = some v))):=by
 have hL:L.length=ks.length:=by have:=congrArg List.length hk;simpa using this
 have hnd:ks.Nodup:=(hp.nodup_iff).1 (hs.imp λ h=>Nat.ne_of_lt h)
 obtain ⟨R,hR⟩:∃ R:Value→Option (DataW Unit×List MemPlace),∀ v,R v=some (.lit (.bool true),[]):=⟨λ _=>some (.lit (.bool true),[]),λ _=>rfl⟩
 have hu:P.underlying (ρ2.t 26)=some (.int .i64):=L6.t26
 have hwf:∀ n:Nat,n<9223372036854775808→(Lit.int .i64 (n:Int)).wf=true:=λ n hn=>by
  have e1:IntKind.min .i64 = -9223372036854775808:=by decide
  have e2:IntKind.max .i64=9223372036854775807:=by decide
  simp only [Lit.wf,Bool.and_eq_true,decide_eq_true_eq,e1,e2];omega
 have hmem:∀ x∈L,∃ n∈ks,x.key=Value.int .i64 (n:Nat):=λ x hx=>by
  have h:=List.mem_map_of_mem (f:=λ x:MapEntry=>x.key) hx
  rw [hk] at h
  obtain ⟨n,hn,e⟩:=List.mem_map.1 h
  exact ⟨n,hn,e.symm⟩
 have hrd:∀ x∈L,∀ n:Nat,n∈ks→x.key=Value.int .i64 (n:Nat)→WideElems.rd P (ρ2.t 26) R x=some (.int .i64 (n:Int),.lit (.bool true)):=λ x _ n hn e=>by
  simp [WideElems.rd,e,Maps.keyOf_int_mk hu (hwf n (hlt n hn)),hR]
 have hown:w.ownsMap P (ρ2.t 26) R mb L.length (.map ((L.map (WideElems.rg P (ρ2.t 26) R)).foldr DataW.insert [])):=by
  refine ⟨L.toArray,clock,hb,⟨by simp only [List.size_toArray,maxLen];omega,⟨by simpa using hborn,?_,?_⟩,λ x hx=>?_⟩,by simp,by simp⟩
  ·exact (by simpa using hbn:(L.map (·.born)).Pairwise (· < ·)).imp λ h=>Nat.ne_of_lt h
  ·show (L.map (·.key)).Nodup
   rw [hk]
   exact List.pairwise_map.2 (hnd.imp λ h e=>h (by have:=(Value.int.inj e).2;omega))
  ·obtain ⟨n,hn,e⟩:=hmem x (by simpa using hx)
   exact ⟨_,hrd x (by simpa using hx) n hn e⟩
 obtain ⟨D0,hD0⟩:∃ D:DataW Unit,D=.map ((L.map (WideElems.rg P (ρ2.t 26) R)).foldr DataW.insert []):=⟨_,rfl⟩
 rw [← hD0] at hown
 have hik:(intKeys D0).Perm (ks.map λ n:Nat=>(n:Int)):=by
  rw [hD0]
  show (List.map (λ p:Lit×DataW Unit=>Go.intOf p.1) _).Perm _
  refine ((sorted_perm _).map _).trans ?_
  have:(L.map (WideElems.rg P (ρ2.t 26) R)).map (λ p:Lit×DataW Unit=>Go.intOf p.1)=(L.map (·.key)).map Go.RowKit.intOf:=by
   rw [List.map_map,List.map_map]
   refine List.map_congr_left λ x hx=>?_
   obtain ⟨n,hn,e⟩:=hmem x hx
   simp [Function.comp,WideElems.rg,hrd x hx n hn e,e,Go.intOf,Go.RowKit.intOf]
  rw [this,hk,List.map_map]
  exact List.Perm.refl _
 have hsz:Maps.size D0=ks.length:=by rw [hD0];show List.length _=_;rw [length_sorted,List.length_map,hL]
 have hclt:c<w.heap.size:=(Array.getElem?_eq_some_iff.1 hc).1
 have hseq:SeqGives Fence.wide 2 P (ρ1.f 10) #[.pointer (some ⟨c,0,none⟩)] encZ (λ ss=>ss.Perm (intKeys D0)) (Maps.size D0) w :=
  AnyZI.keys_gives L10 Fence.wide _ trivial rfl (by omega) c mb L.length D0 w hclt (by simp [World.cell?,hc]) (by rw [ht];exact hown)
 have cS:=AnyZI.sorted_in L6 Fence.wide 5 trivial trivial trivial trivial rfl (by omega) hS e9 (ρ1.f 10) #[.pointer (some ⟨c,0,none⟩)] trivial eg _ _ (by rw [hsz];simp only [maxLen];omega) (by rw [hsz];omega) w hseq
 refine Calls.mono (callsIn_wide.1 cS) λ en w' ⟨v,ss,e,hS,hrow,hnil,hbl⟩=>⟨v,e,Grow.mk hbl,?_⟩
 have hsm:ss.mergeSort (λ x y=>decide (x≤y))=ls.map λ n:Nat=>(n:Int):=by
  refine (mergeSort_of_perm_i (hS.trans (hik.trans (hp.symm.map _)))).trans (List.mergeSort_of_pairwise ?_)
  refine List.pairwise_map.2 (hs.imp λ h=>?_)
  simp only [leI,decide_eq_true_eq];omega
 have hl:ss.length=ls.length:=by have:=congrArg List.length hsm;simpa using this
 rw [hsm] at hrow
 rcases hrow.2 with ⟨rfl,h0⟩|⟨g,cap,cur,rfl,h1,h2,h3,h4,h5,h6⟩
 ·exact .inl ⟨List.eq_nil_of_length_eq_zero (by omega),rfl⟩
 ·refine .inr ⟨λ e0=>?_,g,cap,cur,by rw [hl],h1,h2,by omega,h4,by omega,λ i v hv=>?_⟩
  ·have:ss=[]:=List.eq_nil_of_length_eq_zero (by rw [hl,e0];rfl)
   have:=hnil.2 this
   cases this
  ·have h7:(cur.toList.take (ss.length*1))[i]? = some v:=by rw [h6,List.map_map];exact hv
   rw [List.getElem?_take] at h7
   split at h7
   ·simpa using h7
   ·cases h7
end Go.Proofs
