import Derived.Test.YtfpadnmdafiddaaGreatDoorG0
import Derived.Test.YtfpadnmdafiddaaGreatDoorGi
import Derived.Test.YtfpadnmdafiddaaGreatDoorGd
set_option linter.all false
set_option maxHeartbeats 16000000
set_option maxRecDepth 100000
namespace Go.V
open Go Go.RowKit
theorem bU [Rn] {P:Program} {n:Nat} {l:List Oper} {e:dJ} {I:Bool→World→Prop} {vs:List Value} {A:Nat} {i j:Nat} {want:Bool} {d:Option Nat} {op:Op} {ty:TypeId} {pos:String} {aft:Array Edge} {v:Value} {e':dJ} (ho:l[i]? = some ⟨d,op,ty,pos,aft,some (j,want)⟩) (hv:vs.getD i undef=v) (he:iZ l vs (lI (bH ⟨d,op,ty,pos,aft,some (j,want)⟩)) e=e')
  (h:∀ b w,(i=A→b=false)→I b w→TL P n l.toArray [⟨d,op,ty,pos,aft,some (j,want)⟩] e' w (detQ d v (I (b || Nat.beq i A)))):DetA P n l e I vs A i:=by
 unfold DetA;rw [ho];simp only;intro b w hb hw;subst he;rw [hv];exact h b w hb hw
end Go.V
namespace Go.Proofs.YtfpadnmdafiddaaGreatDoor
open Go Go.RowKit Go.V
def fU (E:CE) (back:Bool) (ix:Option Nat):bT:=if back then mK E.al E.fr ix else kE E.al E.to ix
def lim (C:CC) (d:Int):Prop:=0<C.most∧C.most≤d
theorem mA {al:bT} {to:Bs} {j:Nat} {it:Bs×Bs} (h:al[j]? = some it):kE al to (some j)=if kB to it then it::kE al to (jY al.length (j+1)) else []:=by
 rw [restF_ix];simp only [kE];rw [gT h,List.takeWhile_cons]
theorem restB_head {al:bT} {fr:Bs} {j:Nat} {it:Bs×Bs} (h:al[j]? = some it):mK al fr (some j)=if kC fr it then it::mK al fr (ixB j) else []:=by
 rw [restB_ix];simp only [mK];rw [eA h,List.reverse_append,List.reverse_singleton,List.singleton_append,List.takeWhile_cons]
section
variable {w:World} {C:CC} {cb:Nat} {d:Int} {pv:Value} {fs:List (Nd×Int)} {E:CE}
theorem chere_c (o:Ok w C cb E) (h:Cu w C cb d pv fs) {ix:Option Nat} (hat:AtE E fs ix) (hix:∀ j,ix=some j→j<E.al.length) (hd:0≤d∧d≤4611686018427387904) :
  Calls Tryz.prog 136 #[.pointer (some ⟨cb,0,none⟩)] w (Ret λ v w'=>∃ a n c a2 n2 c2 b,v=.tuple #[.agg #[.slice a n c,.slice a2 n2 c2],.bool b]∧Grow w w'∧((b=true∧¬ lim C d∧∃ it r,fU E C.back ix=it::r∧Sl (λ k=>C.lo≤k∧k<cb) w' 1 a n c (bB it.1)∧Sl (λ k=>C.lo≤k∧k<cb) w' 1 a2 n2 c2 (bB it.2))∨(b=false∧(lim C d∨fU E C.back ix=[])))):=by
 have hb:=h.blk;have hm:=o.most;have hcl:=h.lt;have htn:C.tn=E.to.length:=by have:=o.t.len;rw [bB,List.length_map] at this;omega
 have htl:=o.tl;refine V.calls (args:=[_]) Tryz.func136 rfl Tryz.ntmps136 rfl rfl ?_
 cases ix with
 | none =>
  obtain rfl:fs=[]:=hat;repeat (first|refine aF ?_|refine yI λ bk w' hg hbk hsz hsz'=>?_)
  refine aB 179 ?_;refine aA rfl (citem0_c (h.grow hg)) rfl ?_;rintro _ w3 ⟨rfl,hg3⟩;have b2:=hbk.grow hg3;have hgw3:=hg.trans hg3;have hb3:=hb.grow hgw3;obtain ⟨t2,rfl⟩:=yE bk;clear hb hbk;repeat (first|refine aF ?_|refine yI λ bk w' hg hbk hsz hsz'=>?_|refine yJ λ w' hu hbk hsz=>?_)
  have hb4:=(hb3.grow hg).upd hu (by have:=hg3.size;have:=h.lt;omega);have b24:=(b2.grow hg).upd hu (by have:=b2.lt;omega);have hgw4:Grow w w':=aI hu (by have:=hg3.size;omega) (hgw3.trans hg);obtain ⟨w4,rfl⟩:=yE w';clear hb3 b2 hbk hu hg hg3 hsz hsz';apply T.any 22 [is _,is _,is _,is _,is _,is _,is _,is _,is _,is _,is _,is _,is _,is _,is _,is _,is _,is _,is _,is _,is _,is _];(· kernel_rfl);(· ((repeat' (first|exact aN|refine aK ?_ ?_));(iterate 22 (· (refine yQ λ wq _ _ hgq=>?_;(repeat (first|refine aF ?_|refine nB rfl rfl rfl ?_));exact aD rfl yG rfl)))));(rintro _ _ _ hgr _ _;(refine yT ?_))
  have b25:=b24.grow hgr;have z4:=hgw4.size;have qt:w.heap.size≤t2:=by omega
  repeat (first|refine aF ?_|refine yJ λ w' hu hbk hsz=>?_)
  refine fN rfl (aW hbk rfl) rfl ⟨_,rfl,none,0,0,none,0,0,false,rfl,aI hu oM (hgw4.trans hgr),.inr ⟨rfl,.inr ?_⟩⟩;unfold fU;cases C.back<;>rfl
 | some j =>
  have hj:=hix j rfl
  obtain ⟨n,ps0,hr,hps,tr⟩:∃ n ps0,C.root=((n:Nat):Int)∧E.ps=n::ps0∧Tr E.s E.H E.top E.al ps0 n:=by
   rcases o.tr with ⟨_,ha⟩|ht
   ·rw [ha] at hj;simp at hj
   ·exact ht
  obtain ⟨l,nd,c,it,rfl,hit,hal,hl1,hl2⟩:=hat.item tr;repeat (first|refine aF ?_|refine yI λ bk w' hg hbk hsz hsz'=>?_)
  refine aB 179 ?_;refine aA rfl (citem_c (h.grow hg) hit hl1 hl2) rfl ?_;rintro _ w3 ⟨_,_,rfl,⟨ia,in_,ic,rfl,hkv⟩,⟨va,vn,vc,rfl,hvv⟩,hg3⟩;have b2:=hbk.grow hg3;have hgw3:=hg.trans hg3;have hb3:=hb.grow hgw3;have o3:=o.grow hgw3;obtain ⟨t2,rfl⟩:=yE bk;have q2:w.heap.size≤t2∧t2<w3.heap.size:=by have:=b2.lt;omega
  clear hb hbk hg hg3 o h hat hsz hsz';repeat (first|refine aF ?_|refine yI λ bk w' hg hbk hsz hsz'=>?_|refine yJ λ w' hu hbk hsz=>?_)
  have hb4:=(hb3.grow hg).upd hu (by have:=hgw3.size;omega);have b24:Blk w' t2 58 [.slice none 0 0,.slice none 0 0]:=(b2.grow hg).upd hu oM;obtain ⟨t4,rfl⟩:=yE bk;have b44:Blk w' t4 58 [.slice ia in_ ic,.slice va vn vc]:=hbk;have z3:=hgw3.size;have hgw4:Grow w w':=aI hu oM (hgw3.trans hg);have c4:Carry (λ k=>C.lo≤k∧k<cb) w3 (λ k=>C.lo≤k∧k<cb) w':=(Carry.grow hg).trans (Carry.upd hu (λ k hk _=>by omega));have qt4:w3.heap.size≤t4∧t4<w'.heap.size:=by have:=b44.lt;omega
  obtain ⟨w4,rfl⟩:=yE w';clear hb3 b2 hbk hu hg hsz hsz';by_cases hm1:0<C.most
  ·by_cases hm2:C.most≤d
   ·apply T.any 22 [is _,is _,is _,is _,is _,is _,is _,is _,is _,is _,is _,is _,is _,is _,is _,is _,is _,is _,is _,is _,is _,is _];(· kernel_rfl);(· ((repeat' (first|exact aN|refine aK ?_ ?_));(iterate 22 (· (refine yQ λ wq _ _ hgq=>?_;(repeat refine aF ?_);exact aD rfl yG rfl)))));(rintro _ _ _ hgr _ _;(refine yT ?_))
    have b25:=b24.grow hgr;have z4:=hgw4.size;repeat (first|refine aF ?_|refine yJ λ w' hu hbk hsz=>?_)
    exact fN rfl (aW hbk rfl) rfl ⟨_,rfl,none,0,0,none,0,0,false,rfl,aI hu oM (hgw4.trans hgr),.inr ⟨rfl,.inl ⟨hm1,hm2⟩⟩⟩
   have hlim:¬ lim C d:=λ e=>hm2 e.2;apply T.any 22 [is _,is _,is _,is _,is _,is _,is _,is _,is _,is _,is _,is _,is _,is _,is _,is _,is _,is _,is _,is _,is _,is _];(· kernel_rfl);(· ((repeat' (first|exact aN|refine aK ?_ ?_));(iterate 22 (· (refine yQ λ wq _ _ hgq=>?_;(repeat refine aF ?_);exact aD rfl yG rfl)))));(rintro _ _ _ hgr _ _;(refine yT ?_))
   have hb5:=hb4.grow hgr;have b25:=b24.grow hgr;have b45:=b44.grow hgr;have hgw5:=hgw4.trans hgr;have c5:=c4.trans (Carry.grow hgr);clear hb4 b24 b44 hgw4 c4 hgr
   cases hback:C.back with
   | true =>
    rw [hback] at hb5;repeat refine aF ?_
    refine bD (e':=[(4,.pointer (some ⟨t4,0,none⟩)),(2,.pointer (some ⟨t2,0,none⟩)),(0,.pointer (some ⟨cb,0,none⟩))]) ?_ ⟨rfl,rfl,rfl,trivial⟩
    apply T.detA 11 10 [.agg #[.slice ia in_ ic,.slice va vn vc],.pointer (some ⟨t4,0+0,none⟩),.slice ia in_ ic,.pointer (some ⟨cb,0,none⟩),.pointer (some ⟨cb,0,none⟩),.pointer (some ⟨cb,0+3,none⟩),.pointer (some ⟨cb,0+3+0,none⟩),.slice C.fa C.fn C.fc,.int .i64 (bW it.1 E.fr),.bool (kC E.fr it),undef]
     (λ b wq=>Grow w wq∧Carry (λ k=>C.lo≤k∧k<cb) w3 (λ k=>C.lo≤k∧k<cb) wq∧Blk wq cb 206 [.pointer (some ⟨cb,0,none⟩),.pointer (some ⟨C.wb,0,none⟩),.int .i64 C.root,.slice C.fa C.fn C.fc,.slice C.ta C.tn C.tc,.bool true,.int .i64 C.most,.int .i64 d,pv]∧Blk wq t4 58 [.slice ia in_ ic,.slice va vn vc]∧Blk wq t2 58 (if b then [.slice ia in_ ic,.slice va vn vc] else [.slice none 0 0,.slice none 0 0]))
    ·rfl
    ·exact λ wq hq=>⟨hgw5.trans hq,c5.trans (Carry.grow hq),hb5.grow hq,b45.grow hq,b25.grow hq⟩
    ·repeat' (first|exact gI|refine fV ?_ ?_)
     ·refine aU rfl rfl rfl ?_;rintro b wq hbA ⟨i1,i2,i3,i4,i5⟩;repeat refine aF ?_
      refine aG rfl ?_;rw [show (b || Nat.beq 0 10)=b from Bool.or_false b];exact ⟨i1,i2,i3,i4,i5⟩
     ·refine aU rfl rfl rfl ?_;rintro b wq hbA ⟨i1,i2,i3,i4,i5⟩;repeat refine aF ?_
      refine aG rfl ?_;rw [show (b || Nat.beq 1 10)=b from Bool.or_false b];exact ⟨i1,i2,i3,i4,i5⟩
     ·refine aU rfl rfl rfl ?_;rintro b wq hbA ⟨i1,i2,i3,i4,i5⟩;repeat refine aF ?_
      refine aG rfl ?_;rw [show (b || Nat.beq 2 10)=b from Bool.or_false b];exact ⟨i1,i2,i3,i4,i5⟩
     ·refine aU rfl rfl rfl ?_;rintro b wq hbA ⟨i1,i2,i3,i4,i5⟩;repeat refine aF ?_
      refine aG rfl ?_;rw [show (b || Nat.beq 3 10)=b from Bool.or_false b];exact ⟨i1,i2,i3,i4,i5⟩
     ·refine aU rfl rfl rfl ?_;rintro b wq hbA ⟨i1,i2,i3,i4,i5⟩;repeat refine aF ?_
      refine aG rfl ?_;rw [show (b || Nat.beq 4 10)=b from Bool.or_false b];exact ⟨i1,i2,i3,i4,i5⟩
     ·refine aU rfl rfl rfl ?_;rintro b wq hbA ⟨i1,i2,i3,i4,i5⟩;repeat refine aF ?_
      refine aG rfl ?_;rw [show (b || Nat.beq 5 10)=b from Bool.or_false b];exact ⟨i1,i2,i3,i4,i5⟩
     ·refine aU rfl rfl rfl ?_;rintro b wq hbA ⟨i1,i2,i3,i4,i5⟩;repeat refine aF ?_
      refine aG rfl ?_;rw [show (b || Nat.beq 6 10)=b from Bool.or_false b];exact ⟨i1,i2,i3,i4,i5⟩
     ·refine aU rfl rfl rfl ?_;rintro b wq hbA ⟨i1,i2,i3,i4,i5⟩;repeat refine aF ?_
      refine aG rfl ?_;rw [show (b || Nat.beq 7 10)=b from Bool.or_false b];exact ⟨i1,i2,i3,i4,i5⟩
     ·refine aU rfl rfl rfl ?_;rintro b wq hbA ⟨i1,i2,i3,i4,i5⟩;repeat (first|(refine aB 139 ?_;refine aA rfl (dU _ _ _ _ _ _ _ _ it.1 E.fr _ (hkv.go i2) (o3.f.go i2)) rfl ?_;rintro _ _ ⟨rfl,hgc⟩)|refine yC ?_)
      refine aG rfl ?_;rw [show (b || Nat.beq 8 10)=b from Bool.or_false b];exact ⟨i1.trans hgc,i2.trans (Carry.grow hgc),i3.grow hgc,i4.grow hgc,i5.grow hgc⟩
     ·refine aU rfl rfl rfl ?_;rintro b wq hbA ⟨i1,i2,i3,i4,i5⟩;repeat refine aF ?_
      refine aG rfl ?_;rw [show (b || Nat.beq 9 10)=b from Bool.or_false b];exact ⟨i1,i2,i3,i4,i5⟩
     ·refine aU rfl rfl rfl ?_;rintro b wq hbA ⟨i1,i2,i3,i4,i5⟩;obtain rfl:=hbA rfl;repeat (first|refine aF ?_|refine yJ λ w' hu hbk hsz=>?_)
      refine gS ?_;exact ⟨aI hu oM i1,i2.trans (Carry.upd hu (λ k hk _=>by omega)),i3.upd hu oM,i4.upd hu oM,hbk⟩
    ·rintro w9 ⟨i1,i2,i3,i4,i5⟩;repeat refine aF ?_
     refine fN rfl (aW i5 rfl) rfl ⟨_,rfl,ia,in_,ic,va,vn,vc,kC E.fr it,rfl,i1,?_⟩;have hr:fU E true (some j)=if kC E.fr it then it::mK E.al E.fr (ixB j) else []:=restB_head hal
     cases hgf:kC E.fr it with
     | true =>
      refine .inl ⟨rfl,hlim,it,mK E.al E.fr (ixB j),?_,hkv.go i2,hvv.go i2⟩;rw [hr,hgf];rfl
     | false =>
      refine .inr ⟨rfl,.inr ?_⟩;rw [hr,hgf];rfl
   | false =>
    rw [hback] at hb5;repeat refine aF ?_
    refine bD (e':=[(4,.pointer (some ⟨t4,0,none⟩)),(2,.pointer (some ⟨t2,0,none⟩)),(0,.pointer (some ⟨cb,0,none⟩))]) ?_ ⟨rfl,rfl,rfl,trivial⟩;by_cases h0:C.tn=0
    ·apply T.detA 20 19 [.agg #[.slice ia in_ ic,.slice va vn vc],.pointer (some ⟨cb,0,none⟩),.pointer (some ⟨cb,0,none⟩),.pointer (some ⟨cb,0+3,none⟩),.pointer (some ⟨cb,0+3+1,none⟩),.slice C.ta C.tn C.tc,.int .i64 (C.tn:Int),.bool true,.bool true,undef,undef,undef,undef,undef,undef,undef,undef,undef,.bool true,undef]
      (λ b wq=>Grow w wq∧Carry (λ k=>C.lo≤k∧k<cb) w3 (λ k=>C.lo≤k∧k<cb) wq∧Blk wq cb 206 [.pointer (some ⟨cb,0,none⟩),.pointer (some ⟨C.wb,0,none⟩),.int .i64 C.root,.slice C.fa C.fn C.fc,.slice C.ta C.tn C.tc,.bool false,.int .i64 C.most,.int .i64 d,pv]∧Blk wq t4 58 [.slice ia in_ ic,.slice va vn vc]∧Blk wq t2 58 (if b then [.slice ia in_ ic,.slice va vn vc] else [.slice none 0 0,.slice none 0 0]))
     ·rfl
     ·exact λ wq hq=>⟨hgw5.trans hq,c5.trans (Carry.grow hq),hb5.grow hq,b45.grow hq,b25.grow hq⟩
     ·repeat' (first|exact gI|refine fV ?_ ?_)
      ·refine aU rfl rfl rfl ?_;rintro b wq hbA ⟨i1,i2,i3,i4,i5⟩;repeat refine aF ?_
       refine aG rfl ?_;rw [show (b || Nat.beq 0 19)=b from Bool.or_false b];exact ⟨i1,i2,i3,i4,i5⟩
      ·refine aU rfl rfl rfl ?_;rintro b wq hbA ⟨i1,i2,i3,i4,i5⟩;repeat refine aF ?_
       refine aG rfl ?_;rw [show (b || Nat.beq 1 19)=b from Bool.or_false b];exact ⟨i1,i2,i3,i4,i5⟩
      ·refine aU rfl rfl rfl ?_;rintro b wq hbA ⟨i1,i2,i3,i4,i5⟩;repeat refine aF ?_
       refine aG rfl ?_;rw [show (b || Nat.beq 2 19)=b from Bool.or_false b];exact ⟨i1,i2,i3,i4,i5⟩
      ·refine aU rfl rfl rfl ?_;rintro b wq hbA ⟨i1,i2,i3,i4,i5⟩;repeat refine aF ?_
       refine aG rfl ?_;rw [show (b || Nat.beq 3 19)=b from Bool.or_false b];exact ⟨i1,i2,i3,i4,i5⟩
      ·refine aU rfl rfl rfl ?_;rintro b wq hbA ⟨i1,i2,i3,i4,i5⟩;repeat refine aF ?_
       refine aG rfl ?_;rw [show (b || Nat.beq 4 19)=b from Bool.or_false b];exact ⟨i1,i2,i3,i4,i5⟩
      ·refine aU rfl rfl rfl ?_;rintro b wq hbA ⟨i1,i2,i3,i4,i5⟩;repeat refine aF ?_
       refine aG rfl ?_;rw [show (b || Nat.beq 5 19)=b from Bool.or_false b];exact ⟨i1,i2,i3,i4,i5⟩
      ·refine aU rfl rfl rfl ?_;rintro b wq hbA ⟨i1,i2,i3,i4,i5⟩;repeat refine aF ?_
       refine aG rfl ?_;rw [show (b || Nat.beq 6 19)=b from Bool.or_false b];exact ⟨i1,i2,i3,i4,i5⟩
      ·refine aU rfl rfl rfl ?_;rintro b wq hbA ⟨i1,i2,i3,i4,i5⟩;repeat refine aF ?_
       refine aG rfl ?_;rw [show (b || Nat.beq 7 19)=b from Bool.or_false b];exact ⟨i1,i2,i3,i4,i5⟩
      ·refine aU rfl rfl rfl ?_;rintro b wq hbA ⟨i1,i2,i3,i4,i5⟩;repeat refine aF ?_
       refine aG rfl ?_;rw [show (b || Nat.beq 8 19)=b from Bool.or_false b];exact ⟨i1,i2,i3,i4,i5⟩
      ·refine bU rfl rfl rfl ?_;rintro b wq hbA ⟨i1,i2,i3,i4,i5⟩;repeat refine aF ?_
       refine aG rfl ?_;rw [show (b || Nat.beq 9 19)=b from Bool.or_false b];exact ⟨i1,i2,i3,i4,i5⟩
      ·refine bU rfl rfl rfl ?_;rintro b wq hbA ⟨i1,i2,i3,i4,i5⟩;repeat refine aF ?_
       refine aG rfl ?_;rw [show (b || Nat.beq 10 19)=b from Bool.or_false b];exact ⟨i1,i2,i3,i4,i5⟩
      ·refine bU rfl rfl rfl ?_;rintro b wq hbA ⟨i1,i2,i3,i4,i5⟩;repeat refine aF ?_
       refine aG rfl ?_;rw [show (b || Nat.beq 11 19)=b from Bool.or_false b];exact ⟨i1,i2,i3,i4,i5⟩
      ·refine bU rfl rfl rfl ?_;rintro b wq hbA ⟨i1,i2,i3,i4,i5⟩;repeat refine aF ?_
       refine aG rfl ?_;rw [show (b || Nat.beq 12 19)=b from Bool.or_false b];exact ⟨i1,i2,i3,i4,i5⟩
      ·refine bU rfl rfl rfl ?_;rintro b wq hbA ⟨i1,i2,i3,i4,i5⟩;repeat refine aF ?_
       refine aG rfl ?_;rw [show (b || Nat.beq 13 19)=b from Bool.or_false b];exact ⟨i1,i2,i3,i4,i5⟩
      ·refine bU rfl rfl rfl ?_;rintro b wq hbA ⟨i1,i2,i3,i4,i5⟩;repeat refine aF ?_
       refine aG rfl ?_;rw [show (b || Nat.beq 14 19)=b from Bool.or_false b];exact ⟨i1,i2,i3,i4,i5⟩
      ·refine bU rfl rfl rfl ?_;rintro b wq hbA ⟨i1,i2,i3,i4,i5⟩;repeat refine aF ?_
       refine aG rfl ?_;rw [show (b || Nat.beq 15 19)=b from Bool.or_false b];exact ⟨i1,i2,i3,i4,i5⟩
      ·refine bU rfl rfl rfl ?_;rintro b wq hbA ⟨i1,i2,i3,i4,i5⟩;repeat refine aF ?_
       refine aG rfl ?_;rw [show (b || Nat.beq 16 19)=b from Bool.or_false b];exact ⟨i1,i2,i3,i4,i5⟩
      ·refine bU rfl rfl rfl ?_;rintro b wq hbA ⟨i1,i2,i3,i4,i5⟩;repeat refine aF ?_
       refine aG rfl ?_;rw [show (b || Nat.beq 17 19)=b from Bool.or_false b];exact ⟨i1,i2,i3,i4,i5⟩
      ·refine aU rfl rfl rfl ?_;rintro b wq hbA ⟨i1,i2,i3,i4,i5⟩;repeat refine aF ?_
       refine aG rfl ?_;rw [show (b || Nat.beq 18 19)=b from Bool.or_false b];exact ⟨i1,i2,i3,i4,i5⟩
      ·refine aU rfl rfl rfl ?_;rintro b wq hbA ⟨i1,i2,i3,i4,i5⟩;obtain rfl:=hbA rfl;repeat (first|refine aF ?_|refine yJ λ w' hu hbk hsz=>?_)
       refine gS ?_;exact ⟨aI hu oM i1,i2.trans (Carry.upd hu (λ k hk _=>by omega)),i3.upd hu oM,i4.upd hu oM,hbk⟩
     ·rintro w9 ⟨i1,i2,i3,i4,i5⟩;repeat refine aF ?_
      refine fN rfl (aW i5 rfl) rfl ⟨_,rfl,ia,in_,ic,va,vn,vc,true,rfl,i1,.inl ⟨rfl,hlim,it,kE E.al E.to (jY E.al.length (j+1)),?_,hkv.go i2,hvv.go i2⟩⟩;have hr:fU E false (some j)=if kB E.to it then it::kE E.al E.to (jY E.al.length (j+1)) else []:=mA hal;rw [hr,show kB E.to it=true by rw [List.eq_nil_of_length_eq_zero (show E.to.length=0 by omega)];rfl];rfl
    ·apply T.detA 20 19 [.agg #[.slice ia in_ ic,.slice va vn vc],.pointer (some ⟨cb,0,none⟩),.pointer (some ⟨cb,0,none⟩),.pointer (some ⟨cb,0+3,none⟩),.pointer (some ⟨cb,0+3+1,none⟩),.slice C.ta C.tn C.tc,.int .i64 (C.tn:Int),.bool false,.bool false,.pointer (some ⟨t4,0+0,none⟩),.slice ia in_ ic,.pointer (some ⟨cb,0,none⟩),.pointer (some ⟨cb,0,none⟩),.pointer (some ⟨cb,0+3,none⟩),.pointer (some ⟨cb,0+3+1,none⟩),.slice C.ta C.tn C.tc,.int .i64 (bW it.1 E.to),.bool (decide (bW it.1 E.to<0)),.bool (decide (bW it.1 E.to<0)),undef]
      (λ b wq=>Grow w wq∧Carry (λ k=>C.lo≤k∧k<cb) w3 (λ k=>C.lo≤k∧k<cb) wq∧Blk wq cb 206 [.pointer (some ⟨cb,0,none⟩),.pointer (some ⟨C.wb,0,none⟩),.int .i64 C.root,.slice C.fa C.fn C.fc,.slice C.ta C.tn C.tc,.bool false,.int .i64 C.most,.int .i64 d,pv]∧Blk wq t4 58 [.slice ia in_ ic,.slice va vn vc]∧Blk wq t2 58 (if b then [.slice ia in_ ic,.slice va vn vc] else [.slice none 0 0,.slice none 0 0]))
     ·rfl
     ·exact λ wq hq=>⟨hgw5.trans hq,c5.trans (Carry.grow hq),hb5.grow hq,b45.grow hq,b25.grow hq⟩
     ·repeat' (first|exact gI|refine fV ?_ ?_)
      ·refine aU rfl rfl rfl ?_;rintro b wq hbA ⟨i1,i2,i3,i4,i5⟩;repeat refine aF ?_
       refine aG rfl ?_;rw [show (b || Nat.beq 0 19)=b from Bool.or_false b];exact ⟨i1,i2,i3,i4,i5⟩
      ·refine aU rfl rfl rfl ?_;rintro b wq hbA ⟨i1,i2,i3,i4,i5⟩;repeat refine aF ?_
       refine aG rfl ?_;rw [show (b || Nat.beq 1 19)=b from Bool.or_false b];exact ⟨i1,i2,i3,i4,i5⟩
      ·refine aU rfl rfl rfl ?_;rintro b wq hbA ⟨i1,i2,i3,i4,i5⟩;repeat refine aF ?_
       refine aG rfl ?_;rw [show (b || Nat.beq 2 19)=b from Bool.or_false b];exact ⟨i1,i2,i3,i4,i5⟩
      ·refine aU rfl rfl rfl ?_;rintro b wq hbA ⟨i1,i2,i3,i4,i5⟩;repeat refine aF ?_
       refine aG rfl ?_;rw [show (b || Nat.beq 3 19)=b from Bool.or_false b];exact ⟨i1,i2,i3,i4,i5⟩
      ·refine aU rfl rfl rfl ?_;rintro b wq hbA ⟨i1,i2,i3,i4,i5⟩;repeat refine aF ?_
       refine aG rfl ?_;rw [show (b || Nat.beq 4 19)=b from Bool.or_false b];exact ⟨i1,i2,i3,i4,i5⟩
      ·refine aU rfl rfl rfl ?_;rintro b wq hbA ⟨i1,i2,i3,i4,i5⟩;repeat refine aF ?_
       refine aG rfl ?_;rw [show (b || Nat.beq 5 19)=b from Bool.or_false b];exact ⟨i1,i2,i3,i4,i5⟩
      ·refine aU rfl rfl rfl ?_;rintro b wq hbA ⟨i1,i2,i3,i4,i5⟩;repeat refine aF ?_
       refine aG rfl ?_;rw [show (b || Nat.beq 6 19)=b from Bool.or_false b];exact ⟨i1,i2,i3,i4,i5⟩
      ·refine aU rfl rfl rfl ?_;rintro b wq hbA ⟨i1,i2,i3,i4,i5⟩;repeat refine aF ?_
       refine aG rfl ?_;rw [show (b || Nat.beq 7 19)=b from Bool.or_false b];exact ⟨i1,i2,i3,i4,i5⟩
      ·refine aU rfl rfl rfl ?_;rintro b wq hbA ⟨i1,i2,i3,i4,i5⟩;repeat refine aF ?_
       refine aG rfl ?_;rw [show (b || Nat.beq 8 19)=b from Bool.or_false b];exact ⟨i1,i2,i3,i4,i5⟩
      ·refine bU rfl rfl rfl ?_;rintro b wq hbA ⟨i1,i2,i3,i4,i5⟩;repeat refine aF ?_
       refine aG rfl ?_;rw [show (b || Nat.beq 9 19)=b from Bool.or_false b];exact ⟨i1,i2,i3,i4,i5⟩
      ·refine bU rfl rfl rfl ?_;rintro b wq hbA ⟨i1,i2,i3,i4,i5⟩;repeat refine aF ?_
       refine aG rfl ?_;rw [show (b || Nat.beq 10 19)=b from Bool.or_false b];exact ⟨i1,i2,i3,i4,i5⟩
      ·refine bU rfl rfl rfl ?_;rintro b wq hbA ⟨i1,i2,i3,i4,i5⟩;repeat refine aF ?_
       refine aG rfl ?_;rw [show (b || Nat.beq 11 19)=b from Bool.or_false b];exact ⟨i1,i2,i3,i4,i5⟩
      ·refine bU rfl rfl rfl ?_;rintro b wq hbA ⟨i1,i2,i3,i4,i5⟩;repeat refine aF ?_
       refine aG rfl ?_;rw [show (b || Nat.beq 12 19)=b from Bool.or_false b];exact ⟨i1,i2,i3,i4,i5⟩
      ·refine bU rfl rfl rfl ?_;rintro b wq hbA ⟨i1,i2,i3,i4,i5⟩;repeat refine aF ?_
       refine aG rfl ?_;rw [show (b || Nat.beq 13 19)=b from Bool.or_false b];exact ⟨i1,i2,i3,i4,i5⟩
      ·refine bU rfl rfl rfl ?_;rintro b wq hbA ⟨i1,i2,i3,i4,i5⟩;repeat refine aF ?_
       refine aG rfl ?_;rw [show (b || Nat.beq 14 19)=b from Bool.or_false b];exact ⟨i1,i2,i3,i4,i5⟩
      ·refine bU rfl rfl rfl ?_;rintro b wq hbA ⟨i1,i2,i3,i4,i5⟩;repeat refine aF ?_
       refine aG rfl ?_;rw [show (b || Nat.beq 15 19)=b from Bool.or_false b];exact ⟨i1,i2,i3,i4,i5⟩
      ·refine bU rfl rfl rfl ?_;rintro b wq hbA ⟨i1,i2,i3,i4,i5⟩;repeat (first|(refine aB 139 ?_;refine aA rfl (dU _ _ _ _ _ _ _ _ it.1 E.to _ (hkv.go i2) (o3.t.go i2)) rfl ?_;rintro _ _ ⟨rfl,hgc⟩)|refine yC ?_)
       refine aG rfl ?_;rw [show (b || Nat.beq 16 19)=b from Bool.or_false b];exact ⟨i1.trans hgc,i2.trans (Carry.grow hgc),i3.grow hgc,i4.grow hgc,i5.grow hgc⟩
      ·refine bU rfl rfl rfl ?_;rintro b wq hbA ⟨i1,i2,i3,i4,i5⟩;repeat refine aF ?_
       refine aG rfl ?_;rw [show (b || Nat.beq 17 19)=b from Bool.or_false b];exact ⟨i1,i2,i3,i4,i5⟩
      ·refine aU rfl rfl rfl ?_;rintro b wq hbA ⟨i1,i2,i3,i4,i5⟩;repeat refine aF ?_
       refine aG rfl ?_;rw [show (b || Nat.beq 18 19)=b from Bool.or_false b];exact ⟨i1,i2,i3,i4,i5⟩
      ·refine aU rfl rfl rfl ?_;rintro b wq hbA ⟨i1,i2,i3,i4,i5⟩;obtain rfl:=hbA rfl;repeat (first|refine aF ?_|refine yJ λ w' hu hbk hsz=>?_)
       refine gS ?_;exact ⟨aI hu oM i1,i2.trans (Carry.upd hu (λ k hk _=>by omega)),i3.upd hu oM,i4.upd hu oM,hbk⟩
     ·rintro w9 ⟨i1,i2,i3,i4,i5⟩;repeat refine aF ?_
      refine fN rfl (aW i5 rfl) rfl ⟨_,rfl,ia,in_,ic,va,vn,vc,decide (bW it.1 E.to<0),rfl,i1,?_⟩;have hr:fU E false (some j)=if kB E.to it then it::kE E.al E.to (jY E.al.length (j+1)) else []:=mA hal
      have hin:kB E.to it=decide (bW it.1 E.to<0):=by
       have:E.to.isEmpty=false:=by
        cases hE:E.to with
        | nil=>rw [hE] at htn;exact absurd htn h0
        | cons a b=>rfl
       simp [kB,this]
      rw [hin] at hr
      cases hgf:decide (bW it.1 E.to<0) with
      | true =>
       refine .inl ⟨rfl,hlim,it,kE E.al E.to (jY E.al.length (j+1)),?_,hkv.go i2,hvv.go i2⟩;rw [hr,hgf];rfl
      | false =>
       refine .inr ⟨rfl,.inr ?_⟩;rw [hr,hgf];rfl
  ·have hlim:¬ lim C d:=λ e=>hm1 e.1;apply T.any 22 [is _,is _,is _,is _,is _,is _,is _,is _,is _,is _,is _,is _,is _,is _,is _,is _,is _,is _,is _,is _,is _,is _];(· kernel_rfl);(· ((repeat' (first|exact aN|refine aK ?_ ?_));(iterate 22 (· (refine yQ λ wq _ _ hgq=>?_;(repeat refine aF ?_);exact aD rfl yG rfl)))));(rintro _ _ _ hgr _ _;(refine yT ?_))
   have hb5:=hb4.grow hgr;have b25:=b24.grow hgr;have b45:=b44.grow hgr;have hgw5:=hgw4.trans hgr;have c5:=c4.trans (Carry.grow hgr);clear hb4 b24 b44 hgw4 c4 hgr
   cases hback:C.back with
   | true =>
    rw [hback] at hb5;repeat refine aF ?_
    refine bD (e':=[(4,.pointer (some ⟨t4,0,none⟩)),(2,.pointer (some ⟨t2,0,none⟩)),(0,.pointer (some ⟨cb,0,none⟩))]) ?_ ⟨rfl,rfl,rfl,trivial⟩
    apply T.detA 11 10 [.agg #[.slice ia in_ ic,.slice va vn vc],.pointer (some ⟨t4,0+0,none⟩),.slice ia in_ ic,.pointer (some ⟨cb,0,none⟩),.pointer (some ⟨cb,0,none⟩),.pointer (some ⟨cb,0+3,none⟩),.pointer (some ⟨cb,0+3+0,none⟩),.slice C.fa C.fn C.fc,.int .i64 (bW it.1 E.fr),.bool (kC E.fr it),undef]
     (λ b wq=>Grow w wq∧Carry (λ k=>C.lo≤k∧k<cb) w3 (λ k=>C.lo≤k∧k<cb) wq∧Blk wq cb 206 [.pointer (some ⟨cb,0,none⟩),.pointer (some ⟨C.wb,0,none⟩),.int .i64 C.root,.slice C.fa C.fn C.fc,.slice C.ta C.tn C.tc,.bool true,.int .i64 C.most,.int .i64 d,pv]∧Blk wq t4 58 [.slice ia in_ ic,.slice va vn vc]∧Blk wq t2 58 (if b then [.slice ia in_ ic,.slice va vn vc] else [.slice none 0 0,.slice none 0 0]))
    ·rfl
    ·exact λ wq hq=>⟨hgw5.trans hq,c5.trans (Carry.grow hq),hb5.grow hq,b45.grow hq,b25.grow hq⟩
    ·repeat' (first|exact gI|refine fV ?_ ?_)
     ·refine aU rfl rfl rfl ?_;rintro b wq hbA ⟨i1,i2,i3,i4,i5⟩;repeat refine aF ?_
      refine aG rfl ?_;rw [show (b || Nat.beq 0 10)=b from Bool.or_false b];exact ⟨i1,i2,i3,i4,i5⟩
     ·refine aU rfl rfl rfl ?_;rintro b wq hbA ⟨i1,i2,i3,i4,i5⟩;repeat refine aF ?_
      refine aG rfl ?_;rw [show (b || Nat.beq 1 10)=b from Bool.or_false b];exact ⟨i1,i2,i3,i4,i5⟩
     ·refine aU rfl rfl rfl ?_;rintro b wq hbA ⟨i1,i2,i3,i4,i5⟩;repeat refine aF ?_
      refine aG rfl ?_;rw [show (b || Nat.beq 2 10)=b from Bool.or_false b];exact ⟨i1,i2,i3,i4,i5⟩
     ·refine aU rfl rfl rfl ?_;rintro b wq hbA ⟨i1,i2,i3,i4,i5⟩;repeat refine aF ?_
      refine aG rfl ?_;rw [show (b || Nat.beq 3 10)=b from Bool.or_false b];exact ⟨i1,i2,i3,i4,i5⟩
     ·refine aU rfl rfl rfl ?_;rintro b wq hbA ⟨i1,i2,i3,i4,i5⟩;repeat refine aF ?_
      refine aG rfl ?_;rw [show (b || Nat.beq 4 10)=b from Bool.or_false b];exact ⟨i1,i2,i3,i4,i5⟩
     ·refine aU rfl rfl rfl ?_;rintro b wq hbA ⟨i1,i2,i3,i4,i5⟩;repeat refine aF ?_
      refine aG rfl ?_;rw [show (b || Nat.beq 5 10)=b from Bool.or_false b];exact ⟨i1,i2,i3,i4,i5⟩
     ·refine aU rfl rfl rfl ?_;rintro b wq hbA ⟨i1,i2,i3,i4,i5⟩;repeat refine aF ?_
      refine aG rfl ?_;rw [show (b || Nat.beq 6 10)=b from Bool.or_false b];exact ⟨i1,i2,i3,i4,i5⟩
     ·refine aU rfl rfl rfl ?_;rintro b wq hbA ⟨i1,i2,i3,i4,i5⟩;repeat refine aF ?_
      refine aG rfl ?_;rw [show (b || Nat.beq 7 10)=b from Bool.or_false b];exact ⟨i1,i2,i3,i4,i5⟩
     ·refine aU rfl rfl rfl ?_;rintro b wq hbA ⟨i1,i2,i3,i4,i5⟩;repeat (first|(refine aB 139 ?_;refine aA rfl (dU _ _ _ _ _ _ _ _ it.1 E.fr _ (hkv.go i2) (o3.f.go i2)) rfl ?_;rintro _ _ ⟨rfl,hgc⟩)|refine yC ?_)
      refine aG rfl ?_;rw [show (b || Nat.beq 8 10)=b from Bool.or_false b];exact ⟨i1.trans hgc,i2.trans (Carry.grow hgc),i3.grow hgc,i4.grow hgc,i5.grow hgc⟩
     ·refine aU rfl rfl rfl ?_;rintro b wq hbA ⟨i1,i2,i3,i4,i5⟩;repeat refine aF ?_
      refine aG rfl ?_;rw [show (b || Nat.beq 9 10)=b from Bool.or_false b];exact ⟨i1,i2,i3,i4,i5⟩
     ·refine aU rfl rfl rfl ?_;rintro b wq hbA ⟨i1,i2,i3,i4,i5⟩;obtain rfl:=hbA rfl;repeat (first|refine aF ?_|refine yJ λ w' hu hbk hsz=>?_)
      refine gS ?_;exact ⟨aI hu oM i1,i2.trans (Carry.upd hu (λ k hk _=>by omega)),i3.upd hu oM,i4.upd hu oM,hbk⟩
    ·rintro w9 ⟨i1,i2,i3,i4,i5⟩;repeat refine aF ?_
     refine fN rfl (aW i5 rfl) rfl ⟨_,rfl,ia,in_,ic,va,vn,vc,kC E.fr it,rfl,i1,?_⟩;have hr:fU E true (some j)=if kC E.fr it then it::mK E.al E.fr (ixB j) else []:=restB_head hal
     cases hgf:kC E.fr it with
     | true =>
      refine .inl ⟨rfl,hlim,it,mK E.al E.fr (ixB j),?_,hkv.go i2,hvv.go i2⟩;rw [hr,hgf];rfl
     | false =>
      refine .inr ⟨rfl,.inr ?_⟩;rw [hr,hgf];rfl
   | false =>
    rw [hback] at hb5;repeat refine aF ?_
    refine bD (e':=[(4,.pointer (some ⟨t4,0,none⟩)),(2,.pointer (some ⟨t2,0,none⟩)),(0,.pointer (some ⟨cb,0,none⟩))]) ?_ ⟨rfl,rfl,rfl,trivial⟩;by_cases h0:C.tn=0
    ·apply T.detA 20 19 [.agg #[.slice ia in_ ic,.slice va vn vc],.pointer (some ⟨cb,0,none⟩),.pointer (some ⟨cb,0,none⟩),.pointer (some ⟨cb,0+3,none⟩),.pointer (some ⟨cb,0+3+1,none⟩),.slice C.ta C.tn C.tc,.int .i64 (C.tn:Int),.bool true,.bool true,undef,undef,undef,undef,undef,undef,undef,undef,undef,.bool true,undef]
      (λ b wq=>Grow w wq∧Carry (λ k=>C.lo≤k∧k<cb) w3 (λ k=>C.lo≤k∧k<cb) wq∧Blk wq cb 206 [.pointer (some ⟨cb,0,none⟩),.pointer (some ⟨C.wb,0,none⟩),.int .i64 C.root,.slice C.fa C.fn C.fc,.slice C.ta C.tn C.tc,.bool false,.int .i64 C.most,.int .i64 d,pv]∧Blk wq t4 58 [.slice ia in_ ic,.slice va vn vc]∧Blk wq t2 58 (if b then [.slice ia in_ ic,.slice va vn vc] else [.slice none 0 0,.slice none 0 0]))
     ·rfl
     ·exact λ wq hq=>⟨hgw5.trans hq,c5.trans (Carry.grow hq),hb5.grow hq,b45.grow hq,b25.grow hq⟩
     ·repeat' (first|exact gI|refine fV ?_ ?_)
      ·refine aU rfl rfl rfl ?_;rintro b wq hbA ⟨i1,i2,i3,i4,i5⟩;repeat refine aF ?_
       refine aG rfl ?_;rw [show (b || Nat.beq 0 19)=b from Bool.or_false b];exact ⟨i1,i2,i3,i4,i5⟩
      ·refine aU rfl rfl rfl ?_;rintro b wq hbA ⟨i1,i2,i3,i4,i5⟩;repeat refine aF ?_
       refine aG rfl ?_;rw [show (b || Nat.beq 1 19)=b from Bool.or_false b];exact ⟨i1,i2,i3,i4,i5⟩
      ·refine aU rfl rfl rfl ?_;rintro b wq hbA ⟨i1,i2,i3,i4,i5⟩;repeat refine aF ?_
       refine aG rfl ?_;rw [show (b || Nat.beq 2 19)=b from Bool.or_false b];exact ⟨i1,i2,i3,i4,i5⟩
      ·refine aU rfl rfl rfl ?_;rintro b wq hbA ⟨i1,i2,i3,i4,i5⟩;repeat refine aF ?_
       refine aG rfl ?_;rw [show (b || Nat.beq 3 19)=b from Bool.or_false b];exact ⟨i1,i2,i3,i4,i5⟩
      ·refine aU rfl rfl rfl ?_;rintro b wq hbA ⟨i1,i2,i3,i4,i5⟩;repeat refine aF ?_
       refine aG rfl ?_;rw [show (b || Nat.beq 4 19)=b from Bool.or_false b];exact ⟨i1,i2,i3,i4,i5⟩
      ·refine aU rfl rfl rfl ?_;rintro b wq hbA ⟨i1,i2,i3,i4,i5⟩;repeat refine aF ?_
       refine aG rfl ?_;rw [show (b || Nat.beq 5 19)=b from Bool.or_false b];exact ⟨i1,i2,i3,i4,i5⟩
      ·refine aU rfl rfl rfl ?_;rintro b wq hbA ⟨i1,i2,i3,i4,i5⟩;repeat refine aF ?_
       refine aG rfl ?_;rw [show (b || Nat.beq 6 19)=b from Bool.or_false b];exact ⟨i1,i2,i3,i4,i5⟩
      ·refine aU rfl rfl rfl ?_;rintro b wq hbA ⟨i1,i2,i3,i4,i5⟩;repeat refine aF ?_
       refine aG rfl ?_;rw [show (b || Nat.beq 7 19)=b from Bool.or_false b];exact ⟨i1,i2,i3,i4,i5⟩
      ·refine aU rfl rfl rfl ?_;rintro b wq hbA ⟨i1,i2,i3,i4,i5⟩;repeat refine aF ?_
       refine aG rfl ?_;rw [show (b || Nat.beq 8 19)=b from Bool.or_false b];exact ⟨i1,i2,i3,i4,i5⟩
      ·refine bU rfl rfl rfl ?_;rintro b wq hbA ⟨i1,i2,i3,i4,i5⟩;repeat refine aF ?_
       refine aG rfl ?_;rw [show (b || Nat.beq 9 19)=b from Bool.or_false b];exact ⟨i1,i2,i3,i4,i5⟩
      ·refine bU rfl rfl rfl ?_;rintro b wq hbA ⟨i1,i2,i3,i4,i5⟩;repeat refine aF ?_
       refine aG rfl ?_;rw [show (b || Nat.beq 10 19)=b from Bool.or_false b];exact ⟨i1,i2,i3,i4,i5⟩
      ·refine bU rfl rfl rfl ?_;rintro b wq hbA ⟨i1,i2,i3,i4,i5⟩;repeat refine aF ?_
       refine aG rfl ?_;rw [show (b || Nat.beq 11 19)=b from Bool.or_false b];exact ⟨i1,i2,i3,i4,i5⟩
      ·refine bU rfl rfl rfl ?_;rintro b wq hbA ⟨i1,i2,i3,i4,i5⟩;repeat refine aF ?_
       refine aG rfl ?_;rw [show (b || Nat.beq 12 19)=b from Bool.or_false b];exact ⟨i1,i2,i3,i4,i5⟩
      ·refine bU rfl rfl rfl ?_;rintro b wq hbA ⟨i1,i2,i3,i4,i5⟩;repeat refine aF ?_
       refine aG rfl ?_;rw [show (b || Nat.beq 13 19)=b from Bool.or_false b];exact ⟨i1,i2,i3,i4,i5⟩
      ·refine bU rfl rfl rfl ?_;rintro b wq hbA ⟨i1,i2,i3,i4,i5⟩;repeat refine aF ?_
       refine aG rfl ?_;rw [show (b || Nat.beq 14 19)=b from Bool.or_false b];exact ⟨i1,i2,i3,i4,i5⟩
      ·refine bU rfl rfl rfl ?_;rintro b wq hbA ⟨i1,i2,i3,i4,i5⟩;repeat refine aF ?_
       refine aG rfl ?_;rw [show (b || Nat.beq 15 19)=b from Bool.or_false b];exact ⟨i1,i2,i3,i4,i5⟩
      ·refine bU rfl rfl rfl ?_;rintro b wq hbA ⟨i1,i2,i3,i4,i5⟩;repeat refine aF ?_
       refine aG rfl ?_;rw [show (b || Nat.beq 16 19)=b from Bool.or_false b];exact ⟨i1,i2,i3,i4,i5⟩
      ·refine bU rfl rfl rfl ?_;rintro b wq hbA ⟨i1,i2,i3,i4,i5⟩;repeat refine aF ?_
       refine aG rfl ?_;rw [show (b || Nat.beq 17 19)=b from Bool.or_false b];exact ⟨i1,i2,i3,i4,i5⟩
      ·refine aU rfl rfl rfl ?_;rintro b wq hbA ⟨i1,i2,i3,i4,i5⟩;repeat refine aF ?_
       refine aG rfl ?_;rw [show (b || Nat.beq 18 19)=b from Bool.or_false b];exact ⟨i1,i2,i3,i4,i5⟩
      ·refine aU rfl rfl rfl ?_;rintro b wq hbA ⟨i1,i2,i3,i4,i5⟩;obtain rfl:=hbA rfl;repeat (first|refine aF ?_|refine yJ λ w' hu hbk hsz=>?_)
       refine gS ?_;exact ⟨aI hu oM i1,i2.trans (Carry.upd hu (λ k hk _=>by omega)),i3.upd hu oM,i4.upd hu oM,hbk⟩
     ·rintro w9 ⟨i1,i2,i3,i4,i5⟩;repeat refine aF ?_
      refine fN rfl (aW i5 rfl) rfl ⟨_,rfl,ia,in_,ic,va,vn,vc,true,rfl,i1,.inl ⟨rfl,hlim,it,kE E.al E.to (jY E.al.length (j+1)),?_,hkv.go i2,hvv.go i2⟩⟩;have hr:fU E false (some j)=if kB E.to it then it::kE E.al E.to (jY E.al.length (j+1)) else []:=mA hal;rw [hr,show kB E.to it=true by rw [List.eq_nil_of_length_eq_zero (show E.to.length=0 by omega)];rfl];rfl
    ·apply T.detA 20 19 [.agg #[.slice ia in_ ic,.slice va vn vc],.pointer (some ⟨cb,0,none⟩),.pointer (some ⟨cb,0,none⟩),.pointer (some ⟨cb,0+3,none⟩),.pointer (some ⟨cb,0+3+1,none⟩),.slice C.ta C.tn C.tc,.int .i64 (C.tn:Int),.bool false,.bool false,.pointer (some ⟨t4,0+0,none⟩),.slice ia in_ ic,.pointer (some ⟨cb,0,none⟩),.pointer (some ⟨cb,0,none⟩),.pointer (some ⟨cb,0+3,none⟩),.pointer (some ⟨cb,0+3+1,none⟩),.slice C.ta C.tn C.tc,.int .i64 (bW it.1 E.to),.bool (decide (bW it.1 E.to<0)),.bool (decide (bW it.1 E.to<0)),undef]
      (λ b wq=>Grow w wq∧Carry (λ k=>C.lo≤k∧k<cb) w3 (λ k=>C.lo≤k∧k<cb) wq∧Blk wq cb 206 [.pointer (some ⟨cb,0,none⟩),.pointer (some ⟨C.wb,0,none⟩),.int .i64 C.root,.slice C.fa C.fn C.fc,.slice C.ta C.tn C.tc,.bool false,.int .i64 C.most,.int .i64 d,pv]∧Blk wq t4 58 [.slice ia in_ ic,.slice va vn vc]∧Blk wq t2 58 (if b then [.slice ia in_ ic,.slice va vn vc] else [.slice none 0 0,.slice none 0 0]))
     ·rfl
     ·exact λ wq hq=>⟨hgw5.trans hq,c5.trans (Carry.grow hq),hb5.grow hq,b45.grow hq,b25.grow hq⟩
     ·repeat' (first|exact gI|refine fV ?_ ?_)
      ·refine aU rfl rfl rfl ?_;rintro b wq hbA ⟨i1,i2,i3,i4,i5⟩;repeat refine aF ?_
       refine aG rfl ?_;rw [show (b || Nat.beq 0 19)=b from Bool.or_false b];exact ⟨i1,i2,i3,i4,i5⟩
      ·refine aU rfl rfl rfl ?_;rintro b wq hbA ⟨i1,i2,i3,i4,i5⟩;repeat refine aF ?_
       refine aG rfl ?_;rw [show (b || Nat.beq 1 19)=b from Bool.or_false b];exact ⟨i1,i2,i3,i4,i5⟩
      ·refine aU rfl rfl rfl ?_;rintro b wq hbA ⟨i1,i2,i3,i4,i5⟩;repeat refine aF ?_
       refine aG rfl ?_;rw [show (b || Nat.beq 2 19)=b from Bool.or_false b];exact ⟨i1,i2,i3,i4,i5⟩
      ·refine aU rfl rfl rfl ?_;rintro b wq hbA ⟨i1,i2,i3,i4,i5⟩;repeat refine aF ?_
       refine aG rfl ?_;rw [show (b || Nat.beq 3 19)=b from Bool.or_false b];exact ⟨i1,i2,i3,i4,i5⟩
      ·refine aU rfl rfl rfl ?_;rintro b wq hbA ⟨i1,i2,i3,i4,i5⟩;repeat refine aF ?_
       refine aG rfl ?_;rw [show (b || Nat.beq 4 19)=b from Bool.or_false b];exact ⟨i1,i2,i3,i4,i5⟩
      ·refine aU rfl rfl rfl ?_;rintro b wq hbA ⟨i1,i2,i3,i4,i5⟩;repeat refine aF ?_
       refine aG rfl ?_;rw [show (b || Nat.beq 5 19)=b from Bool.or_false b];exact ⟨i1,i2,i3,i4,i5⟩
      ·refine aU rfl rfl rfl ?_;rintro b wq hbA ⟨i1,i2,i3,i4,i5⟩;repeat refine aF ?_
       refine aG rfl ?_;rw [show (b || Nat.beq 6 19)=b from Bool.or_false b];exact ⟨i1,i2,i3,i4,i5⟩
      ·refine aU rfl rfl rfl ?_;rintro b wq hbA ⟨i1,i2,i3,i4,i5⟩;repeat refine aF ?_
       refine aG rfl ?_;rw [show (b || Nat.beq 7 19)=b from Bool.or_false b];exact ⟨i1,i2,i3,i4,i5⟩
      ·refine aU rfl rfl rfl ?_;rintro b wq hbA ⟨i1,i2,i3,i4,i5⟩;repeat refine aF ?_
       refine aG rfl ?_;rw [show (b || Nat.beq 8 19)=b from Bool.or_false b];exact ⟨i1,i2,i3,i4,i5⟩
      ·refine bU rfl rfl rfl ?_;rintro b wq hbA ⟨i1,i2,i3,i4,i5⟩;repeat refine aF ?_
       refine aG rfl ?_;rw [show (b || Nat.beq 9 19)=b from Bool.or_false b];exact ⟨i1,i2,i3,i4,i5⟩
      ·refine bU rfl rfl rfl ?_;rintro b wq hbA ⟨i1,i2,i3,i4,i5⟩;repeat refine aF ?_
       refine aG rfl ?_;rw [show (b || Nat.beq 10 19)=b from Bool.or_false b];exact ⟨i1,i2,i3,i4,i5⟩
      ·refine bU rfl rfl rfl ?_;rintro b wq hbA ⟨i1,i2,i3,i4,i5⟩;repeat refine aF ?_
       refine aG rfl ?_;rw [show (b || Nat.beq 11 19)=b from Bool.or_false b];exact ⟨i1,i2,i3,i4,i5⟩
      ·refine bU rfl rfl rfl ?_;rintro b wq hbA ⟨i1,i2,i3,i4,i5⟩;repeat refine aF ?_
       refine aG rfl ?_;rw [show (b || Nat.beq 12 19)=b from Bool.or_false b];exact ⟨i1,i2,i3,i4,i5⟩
      ·refine bU rfl rfl rfl ?_;rintro b wq hbA ⟨i1,i2,i3,i4,i5⟩;repeat refine aF ?_
       refine aG rfl ?_;rw [show (b || Nat.beq 13 19)=b from Bool.or_false b];exact ⟨i1,i2,i3,i4,i5⟩
      ·refine bU rfl rfl rfl ?_;rintro b wq hbA ⟨i1,i2,i3,i4,i5⟩;repeat refine aF ?_
       refine aG rfl ?_;rw [show (b || Nat.beq 14 19)=b from Bool.or_false b];exact ⟨i1,i2,i3,i4,i5⟩
      ·refine bU rfl rfl rfl ?_;rintro b wq hbA ⟨i1,i2,i3,i4,i5⟩;repeat refine aF ?_
       refine aG rfl ?_;rw [show (b || Nat.beq 15 19)=b from Bool.or_false b];exact ⟨i1,i2,i3,i4,i5⟩
      ·refine bU rfl rfl rfl ?_;rintro b wq hbA ⟨i1,i2,i3,i4,i5⟩;repeat (first|(refine aB 139 ?_;refine aA rfl (dU _ _ _ _ _ _ _ _ it.1 E.to _ (hkv.go i2) (o3.t.go i2)) rfl ?_;rintro _ _ ⟨rfl,hgc⟩)|refine yC ?_)
       refine aG rfl ?_;rw [show (b || Nat.beq 16 19)=b from Bool.or_false b];exact ⟨i1.trans hgc,i2.trans (Carry.grow hgc),i3.grow hgc,i4.grow hgc,i5.grow hgc⟩
      ·refine bU rfl rfl rfl ?_;rintro b wq hbA ⟨i1,i2,i3,i4,i5⟩;repeat refine aF ?_
       refine aG rfl ?_;rw [show (b || Nat.beq 17 19)=b from Bool.or_false b];exact ⟨i1,i2,i3,i4,i5⟩
      ·refine aU rfl rfl rfl ?_;rintro b wq hbA ⟨i1,i2,i3,i4,i5⟩;repeat refine aF ?_
       refine aG rfl ?_;rw [show (b || Nat.beq 18 19)=b from Bool.or_false b];exact ⟨i1,i2,i3,i4,i5⟩
      ·refine aU rfl rfl rfl ?_;rintro b wq hbA ⟨i1,i2,i3,i4,i5⟩;obtain rfl:=hbA rfl;repeat (first|refine aF ?_|refine yJ λ w' hu hbk hsz=>?_)
       refine gS ?_;exact ⟨aI hu oM i1,i2.trans (Carry.upd hu (λ k hk _=>by omega)),i3.upd hu oM,i4.upd hu oM,hbk⟩
     ·rintro w9 ⟨i1,i2,i3,i4,i5⟩;repeat refine aF ?_
      refine fN rfl (aW i5 rfl) rfl ⟨_,rfl,ia,in_,ic,va,vn,vc,decide (bW it.1 E.to<0),rfl,i1,?_⟩;have hr:fU E false (some j)=if kB E.to it then it::kE E.al E.to (jY E.al.length (j+1)) else []:=mA hal
      have hin:kB E.to it=decide (bW it.1 E.to<0):=by
       have:E.to.isEmpty=false:=by
        cases hE:E.to with
        | nil=>rw [hE] at htn;exact absurd htn h0
        | cons a b=>rfl
       simp [kB,this]
      rw [hin] at hr
      cases hgf:decide (bW it.1 E.to<0) with
      | true =>
       refine .inl ⟨rfl,hlim,it,kE E.al E.to (jY E.al.length (j+1)),?_,hkv.go i2,hvv.go i2⟩;rw [hr,hgf];rfl
      | false =>
       refine .inr ⟨rfl,.inr ?_⟩;rw [hr,hgf];rfl
end
end Go.Proofs.YtfpadnmdafiddaaGreatDoor
