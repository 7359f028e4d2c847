import Derived.Test.YtfpadnmdafiddaaGreatDoorG0
import Derived.Test.YtfpadnmdafiddaaGreatDoorGk
set_option linter.all false
set_option maxHeartbeats 16000000
set_option maxRecDepth 100000
namespace Go.V
open Go Go.RowKit
section
variable [Rn]
variable {P:Program} {n:Nat} {e:dJ} {w:World} {Q:dI} {ops:Array Oper} {rest:List Oper} {d:Nat} {ty:TypeId} {pos:String} {aft:Array Edge}
theorem TL.ltS {x y:Operand} {s t:ByteArray} {t1 t2:TypeId} {b:Bool} (hx:val e x=some (.string s)) (hy:val e y=some (.string t)) (h:Op.bytesLess s.toList t.toList=b) (hd:Nat.blt d n=true)
  (k:TL P n ops rest ((d,.bool b)::e) w Q):TL P n ops (⟨some d,.binOp .lss t1 x y t2,ty,pos,aft,none⟩::rest) e w Q :=
 TL.run (λ r hr=>by
  have hg:eqGuard .lss t1 x y (.string s) (.string t)=Pure.pure ():=rfl;simp only [execOp,hr.eval hx,hr.eval hy,hg]
  simp [binOp,Op.stringOp,← h]) hd k
theorem TL.gtS {x y:Operand} {s t:ByteArray} {t1 t2:TypeId} {b:Bool} (hx:val e x=some (.string s)) (hy:val e y=some (.string t)) (h:(!(Op.bytesLess s.toList t.toList || s.toList==t.toList))=b) (hd:Nat.blt d n=true)
  (k:TL P n ops rest ((d,.bool b)::e) w Q):TL P n ops (⟨some d,.binOp .gtr t1 x y t2,ty,pos,aft,none⟩::rest) e w Q :=
 TL.run (λ r hr=>by
  have hg:eqGuard .gtr t1 x y (.string s) (.string t)=Pure.pure ():=rfl;simp only [execOp,hr.eval hx,hr.eval hy,hg]
  simp [binOp,Op.stringOp,← h]) hd k
end
end Go.V
namespace Go.Proofs.YtfpadnmdafiddaaGreatDoor
open Go Go.RowKit Go.V
theorem gt_txt {a b:Bs} (ha:eZ a) (hb:eZ b):(!(Op.bytesLess (kH a).toList (kH b).toList || (kH a).toList==(kH b).toList))=decide (eO b a):=by
 rw [less_txt ha hb,txt_eq ha hb];rcases klt_or a b with h|h|h
 ·rw [decide_eq_true h,decide_eq_false (lT h)];rfl
 ·subst h;simp [eI]
 ·rw [decide_eq_true h,decide_eq_false (lT h),decide_eq_false (λ e=>by subst e;exact eI _ h)];rfl
theorem putL_by {l:bT} {x:Bs×Bs} (h:∀ y∈l,eZ y.1∧eZ y.2) (hx:eZ x.1∧eZ x.2):∀ y∈putL l x,eZ y.1∧eZ y.2:=by
 intro y hy;unfold putL at hy;split at hy
 ·rcases nM hy with rfl|hy
  ·exact hx
  ·exact h y hy
 ·exact h y hy
theorem plant_by {l:bT}:∀ {acc:bT},(∀ y∈acc,eZ y.1∧eZ y.2)→(∀ y∈l,eZ y.1∧eZ y.2)→∀ y∈l.foldl putL acc,eZ y.1∧eZ y.2:=by
 induction l with
 | nil=>intro acc h _;exact h
 | cons x r ih=>intro acc h hl;exact ih (putL_by h (hl x sM)) (λ y hy=>hl y (List.mem_cons_of_mem _ hy))
theorem plantL_by {l:bT} (h:∀ y∈l,eZ y.1∧eZ y.2):∀ y∈hX l,eZ y.1∧eZ y.2:=plant_by sM h
theorem plantL_len (l:bT):(hX l).length≤l.length:=by have:=foldl_len l [];simpa [hX] using this
theorem light_b {F:Nat→Prop} {w:World} {a:Option Addr} {n c:Nat} {l:bT} (h:ItsAt F w a n c l) {b:Bool} (e:lightB l=b) :
  Calls Tryz.prog 52 #[.slice a n c] w (Ret λ v w'=>v=.bool b∧w=w'):=e▸light_c h
theorem light_of {l:bT} (h:lightB l=true):l.length≤60∧∀ x∈l,x.1.length≤100∧x.2.length≤100:=by
 unfold lightB at h;simp only [Bool.and_eq_true,decide_eq_true_eq,List.all_eq_true] at h;exact ⟨h.1,λ x hx=>by have:=h.2 x hx;simpa [lit1] using this⟩
structure Ky where
 a:Option Addr
 c:Nat
 b:Bs
def Ky.v (k:Ky):Value:=.slice k.a k.b.length k.c
structure Skz (w0 w:World) (C:CC) (cb:Nat) (E:CE) (d:Int) (pv:Value) (fs:List (Nd×Int)) (ix:Option Nat) (b5 bl:Nat) (sp:List Value) (k1 k2:Ky) (R:bT) (ra:Option Addr) (rc:Nat):Prop where
 cu:Cu w C cb d pv fs
 ok:Ok w C cb E
 at_:AtE E fs ix
 bd:∀ j,ix=some j→j<E.al.length
 d0:0≤d
 lt5:b5<cb
 box:Blk w b5 92 sp
 its:ItsAt (λ k=>k<cb) w ra R.length rc R
 ss:∀ z,z=k1∨z=k2→Sl (λ k=>k<cb) w 1 z.a z.b.length z.c (bB z.b)
 kk:Blk w bl 30 [k1.v,k2.v,k1.v]
 ltl:cb<bl
 nl:pv.ownBlock≠some bl
 new:w0.heap.size≤cb
 gr:Grow w0 w
section
variable {w0 w:World} {C:CC} {cb:Nat} {E:CE} {d:Int} {pv:Value} {fs:List (Nd×Int)} {ix:Option Nat} {b5 bl:Nat} {sp:List Value} {k1 k2:Ky} {R:bT} {ra:Option Addr} {rc:Nat}
theorem Skz.grow {w':World} (s:Skz w0 w C cb E d pv fs ix b5 bl sp k1 k2 R ra rc) (g:Grow w w'):Skz w0 w' C cb E d pv fs ix b5 bl sp k1 k2 R ra rc :=
 ⟨s.cu.grow g,s.ok.grow g,s.at_,s.bd,s.d0,s.lt5,s.box.grow g,s.its.go (Carry.grow g),λ z hz=>(s.ss z hz).grow g,s.kk.grow g,s.ltl,s.nl,s.new,s.gr.trans g⟩
theorem Skz.to {w':World} {d':Int} {pv':Value} {fs':List (Nd×Int)} {ix':Option Nat} (s:Skz w0 w C cb E d pv fs ix b5 bl sp k1 k2 R ra rc) (cu:Cu w' C cb d' pv' fs') (t:CuTo cb pv pv' w w') (at_:AtE E fs' ix') (bd:∀ j,ix'=some j→j<E.al.length) (d0:0≤d'):Skz w0 w' C cb E d' pv' fs' ix' b5 bl sp k1 k2 R ra rc:=by
 have c:=s.cu.carry0 t;have hl:=s.ltl;have hk:=s.kk.lt
 exact ⟨cu,s.ok.go (s.cu.carry t),at_,bd,d0,s.lt5,bY s.box t.but (λ e=>by
  rcases e with e|e
  ·have:=s.lt5;omega
  ·have:=(s.cu.own e).1;have:=s.lt5;omega),s.its.go c,λ z hz=>(s.ss z hz).go c,bY s.kk t.but (λ e=>by
  rcases e with e|e
  ·omega
  ·exact s.nl e),s.ltl,λ e=>by
  rcases t.own _ e with e|e
  ·exact s.nl e
  ·omega,s.new,iE s.gr t.but (λ k hk=>by
  rcases hk with e|e
  ·have:=s.new;omega
  ·have:=(s.cu.own e).1;have:=s.new;omega)⟩
end
def skP (back:Bool) (key:Bs):Bs×Bs→Bool:=if back then jH key else kC key
theorem seeks_c {w:World} {a:Option Addr} {n c:Nat} {l:bT} (htab:TabAt w) (h0:ItsAt (λ k=>k<w.heap.size) w a n c l) (hby:∀ x∈l,eZ x.1∧eZ x.2) (fa ta:Option Addr) (fn fc tn tc:Nat) (fr to:Bs) (back:Bool) (most:Int) (k1 k2:Ky) (hf:Sl (λ k=>k<w.heap.size) w 1 fa fn fc (bB fr)) (hto:Sl (λ k=>k<w.heap.size) w 1 ta tn tc (bB to)) (h1:Sl (λ k=>k<w.heap.size) w 1 k1.a k1.b.length k1.c (bB k1.b)) (h2:Sl (λ k=>k<w.heap.size) w 1 k2.a k2.b.length k2.c (bB k2.b)) (hb1:eZ k1.b) (hb2:eZ k2.b) :
  Calls Tryz.prog 10 #[.slice a n c,.agg #[.slice fa fn fc,.slice ta tn tc,.bool back,.int .i64 most],.slice k1.a k1.b.length k1.c,.slice k2.a k2.b.length k2.c] w (Ret λ v w'=>v=.bool true∧Grow w w'):=by
 have hfn:fn=fr.length:=by have:=hf.len;rw [bB,List.length_map] at this;omega
 have htn:tn=to.length:=by have:=hto.len;rw [bB,List.length_map] at this;omega
 have hfm:=hf.le;have htm:=hto.le;have hm1:=h1.le;have hm2:=h2.le;subst hfn;subst htn;refine V.calls (args:=[_,_,_,_]) Tryz.func10 rfl Tryz.ntmps10 rfl rfl ?_;repeat (first|refine aF ?_|refine yI λ bk w' hg hbk hsz hsz'=>?_)
 refine aB 51 ?_;refine aA (vs:=[]) rfl (lives13v_c _ (htab.keep (hg.block 0 htab.1) hg.size)) rfl ?_;rintro _ w2 ⟨rfl,hg2⟩;have hgw:=hg.trans hg2;have k5:=hbk.grow hg2;obtain ⟨b5,rfl⟩:=yE bk;have q5:w.heap.size≤b5∧b5<w2.heap.size:=by have:=k5.lt;omega
 clear hbk hg hg2 hsz hsz';have hits:=h0.go (Carry.grow hgw)
 cases hl:lightB l with
 | false =>
  repeat (first|(refine aB 52 ?_;refine aA rfl (light_b hits hl) rfl ?_;rintro _ _ ⟨rfl,rfl⟩)|refine yC ?_)
  exact bA rfl ⟨_,rfl,rfl,hgw⟩
 | true =>
 by_cases hf16:16<fr.length
 ·repeat (first|(refine aB 52 ?_;refine aA rfl (light_b hits hl) rfl ?_;rintro _ _ ⟨rfl,rfl⟩)|refine yC ?_)
  exact bA rfl ⟨_,rfl,rfl,hgw⟩
 by_cases ht16:16<to.length
 ·repeat (first|(refine aB 52 ?_;refine aA rfl (light_b hits hl) rfl ?_;rintro _ _ ⟨rfl,rfl⟩)|refine yC ?_)
  exact bA rfl ⟨_,rfl,rfl,hgw⟩
 by_cases h116:16<k1.b.length
 ·repeat (first|(refine aB 52 ?_;refine aA rfl (light_b hits hl) rfl ?_;rintro _ _ ⟨rfl,rfl⟩)|refine yC ?_)
  exact bA rfl ⟨_,rfl,rfl,hgw⟩
 by_cases h216:16<k2.b.length
 ·repeat (first|(refine aB 52 ?_;refine aA rfl (light_b hits hl) rfl ?_;rintro _ _ ⟨rfl,rfl⟩)|refine yC ?_)
  exact bA rfl ⟨_,rfl,rfl,hgw⟩
 obtain ⟨hl60,hl100⟩:=light_of hl;repeat (first|(refine aB 52 ?_;refine aA rfl (light_b hits hl) rfl ?_;rintro _ _ ⟨rfl,rfl⟩)|refine yC ?_|refine yJ λ w' hu hbk hsz=>?_)
 have hgw3:Grow w w':=aI hu oM hgw;obtain ⟨w3,rfl⟩:=yE w';have k53:Blk w3 b5 92 [.slice fa fr.length fc,.slice ta to.length tc,.bool back,.int .i64 0]:=hbk;have hits3:=(h0.go (Carry.grow hgw)).go (Carry.upd hu (λ k hk _=>by omega));clear hbk hu k5 hits hsz;refine aB 53 ?_;refine aA rfl (planted_c (htab.keep (hgw3.block 0 htab.1) hgw3.size) hits3 hby hl60 hl100) rfl ?_;rintro _ w8 ⟨L,R0,root,g,lv,ps,rfl,hpl,hcnt,hsp,htr,hlv,hg8⟩;have hgw8:=hgw3.trans hg8;have k58:=k53.grow hg8;have hpb:=plantL_by hby;have hpn:(hX l).length≤60:=Nat.le_trans (plantL_len l) hl60;obtain ⟨al,hal⟩:∃ al,al=hX l:=⟨_,rfl⟩
 rw [← hal] at htr hpb hpn;clear k53 hcnt hsp hal;repeat refine aF ?_
 refine aB 54 ?_;refine aA rfl (crange_c hpl.pw htr oM oM hpb _ fa ta fr.length fc to.length tc fr to back 0 (hf.grow hgw8) (hto.grow hgw8) oM oM oM) rfl ?_;rintro _ w9 ⟨⟨ra,rn,rc,rfl,hR⟩,hg9⟩;have hgw9:=hgw8.trans hg9;have k59:=k58.grow hg9;have hp9:=hpl.grow hg9;have hRn:=hR.len;rw [show rngL al fr to back 0=eN al fr to back from rfl] at hR hRn;subst hRn;clear k58 hpl;repeat refine aF ?_
 refine aB 55 ?_;refine aA rfl (copen_c hp9.pw htr oM oM hpb _ fa ta fr.length fc to.length tc fr to back 0 (hf.grow hgw9) (hto.grow hgw9) oM oM oM) rfl ?_;rintro _ w10 ⟨cb,C,E,pv,fs,ix,rfl,hcb,hcu,hok,hat,hbd,hre,rfl,rfl,rfl,rfl,hmost,_,hg10⟩;have hgw10:=hgw9.trans hg10;have k510:=k59.grow hg10;have q5':=k59.lt;have zz9:=hgw9.size;clear k59 hp9 htr;repeat refine aF ?_
 refine TL.buildSlice rfl rfl rfl rfl rfl ?_;intro bl w11 hg11 hbl hx11 hy11 _;obtain ⟨R,hRR⟩:∃ R,R=eN E.al E.fr E.to C.back:=⟨_,rfl⟩
 rw [← hRR] at hR hre ⊢
 have hRl:R.length≤60:=by
  rw [hRR];unfold eN;refine Nat.le_trans (List.length_filter_le _ _) ?_;split
  ·rw [List.length_reverse];omega
  ·omega
 have sk0:Skz w w11 C cb E 0 pv fs ix b5 bl [.slice fa E.fr.length fc,.slice ta E.to.length tc,.bool C.back,.int .i64 0] k1 k2 R ra rc:=by
  have hcl:=hcu.lt;refine ⟨hcu.grow hg11,hok.grow hg11,hat,hbd,Int.le_refl _,oM,k510.grow hg11,(hR.go (Carry.mono (F':=λ k=>k<cb) λ k hk hl=>by omega)).go (Carry.grow (hg10.trans hg11)),λ z hz=>?_,hbl,oM,λ e=>by have:=(hcu.own e).2;omega,oM,hgw10.trans hg11⟩;rcases hz with rfl|rfl
  ·exact (h1.grow (hgw10.trans hg11)).go (Carry.mono λ k hk _=>by omega)
  ·exact (h2.grow (hgw10.trans hg11)).go (Carry.mono λ k hk _=>by omega)
 clear hcu hok hat hbd k510 hbl;repeat refine aF ?_
 refine aX (S:=Nat×Int×Value×List (Nd×Int)×Option Nat) (λ q=>[(87,.int .i64 (q.1:Int)),(86,.int .i64 3),(85,.slice (some ⟨bl,0,none⟩) 3 3),(15,.pointer (some ⟨cb,0,none⟩)),(13,.slice ra R.length rc),(5,.pointer (some ⟨b5,0,none⟩))]) (λ q w1=>q.1≤3∧Skz w w1 C cb E q.2.1 q.2.2.1 q.2.2.2.1 q.2.2.2.2 b5 bl [.slice fa E.fr.length fc,.slice ta E.to.length tc,.bool C.back,.int .i64 0] k1 k2 R ra rc∧q.2.1≤q.1*1000) (λ q=>3-q.1) (0,0,pv,fs,ix) ⟨rfl,rfl,rfl,rfl,rfl,rfl,trivial⟩ ⟨Nat.zero_le _,sk0,sM⟩ ?_;clear sk0;rintro ⟨j,d,pv,fs,ix⟩ w1 ⟨hj,sk,hd⟩;simp only at hj sk hd;by_cases hj3:j<3;rotate_left
 ·repeat refine aF ?_
  exact bA rfl ⟨_,rfl,rfl,sk.gr⟩
 obtain ⟨k,hk,hkk,hkb,hk16⟩:∃ k:Ky,([k1.v,k2.v,k1.v]:List Value)[j]? = some (.slice k.a k.b.length k.c)∧(k=k1∨k=k2)∧eZ k.b∧k.b.length≤16:=by
  rcases (by omega:j=0∨j=1∨j=2) with rfl|rfl|rfl
  ·exact ⟨k1,rfl,.inl rfl,hb1,oM⟩
  ·exact ⟨k2,rfl,.inr rfl,hb2,oM⟩
  ·exact ⟨k1,rfl,.inl rfl,hb1,oM⟩
 have hsl:Sl (λ _=>True) w1 1 (some ⟨bl,0,none⟩) 3 3 [k1.v,k2.v,k1.v]:=(aV (sz:=1) (m:=3) sk.kk rfl dM).mono (λ _ _=>trivial);repeat (first|(refine aH ?_;refine aC (j:=j) rfl rfl rfl hj3 (Nat.mul_one _) ⟨_,_,hsl⟩ rfl ?_)|(refine aO ?_;refine aQ rfl (hsl.row.cell hk) rfl ?_)|refine yC ?_)
 refine aB 20 ?_;refine aA rfl (own_c _ k.a k.b.length k.c k.b _ (sk.ss k hkk) oM) rfl ?_;rintro vk w2' ⟨hown,hg2⟩;obtain ⟨a4,c4,rfl,hs4⟩:=aM hown;have sk2:=sk.grow hg2;repeat refine aF ?_
 refine aB 60 ?_;refine aA rfl (cseek_c sk2.ok sk2.cu (λ z=>w1.heap.size≤z) (λ z hz=>⟨by have:=sk.cu.lt;omega,λ e=>by have:=(sk.cu.own e).2;omega⟩) a4 k.b.length c4 k.b (hs4.mono λ z hz=>hz.1) hkb hk16) rfl ?_;rintro _ w3 ⟨rfl,pv3,fs3,ix3,hcu3,hto3,hat3,hbd3,hre3⟩;have sk3:=sk2.to hcu3 hto3 hat3 hbd3 sk.d0;have hre3':fU E C.back ix3=(R.drop 0).filter (skP C.back k.b):=by rw [hre3,hRR];rfl
 clear sk sk2 hcu3 hto3 hat3 hbd3 hre3 hown hs4 hsl hg2;repeat refine aF ?_
 refine aX (S:=Nat×Int×Value×List (Nd×Int)×Option Nat) (λ q=>[(19,.int .i64 (q.1:Int)),(87,.int .i64 (j:Int)),(86,.int .i64 3),(85,.slice (some ⟨bl,0,none⟩) 3 3),(18,.slice k.a k.b.length k.c),(15,.pointer (some ⟨cb,0,none⟩)),(13,.slice ra R.length rc),(5,.pointer (some ⟨b5,0,none⟩))]) (λ q w1=>q.1≤R.length∧Skz w w1 C cb E q.2.1 q.2.2.1 q.2.2.2.1 q.2.2.2.2 b5 bl [.slice fa E.fr.length fc,.slice ta E.to.length tc,.bool C.back,.int .i64 0] k1 k2 R ra rc∧q.2.1≤d+q.1∧fU E C.back q.2.2.2.2=(R.drop q.1).filter (skP C.back k.b)) (λ q=>R.length-q.1) (0,d,pv3,fs3,ix3) ⟨rfl,rfl,rfl,rfl,rfl,rfl,rfl,rfl,trivial⟩ ⟨Nat.zero_le _,sk3,sM,hre3'⟩ ?_;clear sk3 hre3' pv3 fs3 ix3;rintro ⟨i,d',pv,fs,ix⟩ w1 ⟨hi,sk,hd',hre⟩;simp only at hi sk hd' hre;by_cases hlt:i<R.length;rotate_left
 ·obtain rfl:i=R.length:=by omega
  rw [List.drop_length] at hre;repeat refine aF ?_
  refine aB 57 ?_;refine aA rfl (cnext_c sk.ok sk.cu sk.at_ sk.bd ⟨sk.d0,oM⟩) rfl ?_;rintro _ w6 ⟨pv6,fs6,ix6,d6,u1,u2,e,rfl,hcu6,hto6,hat6,hbd6,hor⟩;rcases hor with ⟨rfl,hlim,it,hr,hm,_⟩|⟨rfl,hno,rfl,rfl,rfl,rfl⟩
  ·rw [hre] at hr;cases hr
  have sk6:=sk.to hcu6 hto6 hat6 hbd6 sk.d0;clear sk hcu6 hto6 hat6 hbd6 hno hre;repeat (first|refine aF ?_|refine yI λ bk w' hg hbk hsz hsz'=>?_|refine yJ λ w' hu hbk hsz=>?_)
  have sk7:=sk6.grow (aI hu oM hg);exact aE (j+1,d6,pv6,fs6,ix6) ⟨rfl,rfl,rfl,rfl,rfl,rfl,trivial⟩ ⟨by simp only;omega,sk7,by simp only;omega⟩ (by simp only;omega)
 obtain ⟨x,hx⟩:∃ x,R[i]? = some x:=⟨_,List.getElem?_eq_getElem hlt⟩
 obtain ⟨xa,xc,va,vc,cs,s1,s2,s3,s4⟩:=sk.its.item hx
 have hxb:eZ x.1∧eZ x.2:=sk.ok.by' x (by
  have:=List.mem_of_getElem? hx;rw [hRR] at this;unfold eN at this;have:=(List.mem_filter.1 this).1;split at this
  ·exact List.mem_reverse.1 this
  ·exact this)
 have hsk:=sk.ss k hkk;have hbox:=sk.box
 have hq:(bif C.back then (!(Op.bytesLess (kH x.1).toList (kH k.b).toList || (kH x.1).toList==(kH k.b).toList)) else Op.bytesLess (kH x.1).toList (kH k.b).toList) = !skP C.back k.b x:=by
  unfold skP
  cases C.back with
  | true =>
   show (!(Op.bytesLess (kH x.1).toList (kH k.b).toList || (kH x.1).toList==(kH k.b).toList)) = !jH k.b x;rw [gt_txt hxb.1 hkb,Bool.eq_iff_iff,Bool.not_eq_true',← Bool.not_eq_true,jG];simp
  | false =>
   show Op.bytesLess (kH x.1).toList (kH k.b).toList = !kC k.b x;rw [less_txt hxb.1 hkb,Bool.eq_iff_iff,Bool.not_eq_true',← Bool.not_eq_true,geFr_iff];simp
 rw [gT hx,List.filter_cons] at hre;obtain ⟨bk2,hbk2⟩:∃ b,b=C.back:=⟨_,rfl⟩
 rw [← hbk2] at hbox
 cases hP:skP C.back k.b x with
 | false =>
  rw [hP] at hq hre;rw [← hbk2] at hq;have hre':fU E C.back ix=(R.drop (i+1)).filter (skP C.back k.b):=hre;cases bk2
  all_goals
   repeat (first|refine nB rfl rfl rfl ?_|(refine aH ?_;refine aC (j:=i) rfl rfl rfl hlt rfl ⟨_,_,s1⟩ rfl ?_)|(refine bK ?_;refine bJ (o:=i*2) rfl s1 (s2 0 _ rfl) rfl ?_)|(refine aO ?_;refine aQ rfl (s1.row.cell (s2 0 _ rfl)) rfl ?_)|(refine dL ?_;first|refine gG rfl s3 rfl ?_|refine gG rfl hsk rfl ?_)|(refine iQ ?_;first|refine TL.ltS (b:=true) rfl rfl hq rfl ?_|refine TL.gtS (b:=true) rfl rfl hq rfl ?_)|refine yC ?_)
   exact aE (i+1,d',pv,fs,ix) ⟨rfl,rfl,rfl,rfl,rfl,rfl,rfl,rfl,trivial⟩ ⟨by simp only;omega,sk,by simp only;omega,hre'⟩ (by simp only;omega)
 | true =>
  rw [hP] at hq hre;rw [← hbk2] at hq;have hre':fU E C.back ix=x::(R.drop (i+1)).filter (skP C.back k.b):=hre;clear hre;cases bk2
  all_goals
   repeat (first|(refine aH ?_;refine aC (j:=i) rfl rfl rfl hlt rfl ⟨_,_,s1⟩ rfl ?_)|(refine bK ?_;refine bJ (o:=i*2) rfl s1 (s2 0 _ rfl) rfl ?_)|(refine aO ?_;refine aQ rfl (s1.row.cell (s2 0 _ rfl)) rfl ?_)|(refine dL ?_;first|refine gG rfl s3 rfl ?_|refine gG rfl hsk rfl ?_)|(refine iQ ?_;first|refine TL.ltS (b:=false) rfl rfl hq rfl ?_|refine TL.gtS (b:=false) rfl rfl hq rfl ?_)|refine yC ?_)
   refine aB 57 ?_;refine aA rfl (cnext_c sk.ok sk.cu sk.at_ sk.bd ⟨sk.d0,oM⟩) rfl ?_;rintro _ w6 ⟨pv6,fs6,ix6,d6,u1,u2,e,rfl,hcu6,hto6,hat6,hbd6,hor⟩;rcases hor with ⟨rfl,hlim,it,hr,hm,rfl,⟨a1,n1,c1,rfl,g1⟩,⟨a2,n2,c2,rfl,g2⟩⟩|⟨rfl,hno,rfl,rfl,rfl,rfl⟩
   rotate_left
   ·rcases hno with hno|hno
    ·have:=hno.1;omega
    ·rw [hre'] at hno;cases hno
   obtain ⟨rfl,hrest⟩:=List.cons.inj (hr.symm.trans hre');have sk6:=sk.to hcu6 hto6 hat6 hbd6 (d':=d'+1) (by have:=sk.d0;omega);clear sk hcu6 hto6 hat6 hbd6 hre' hr hlim hbox hsk s1 s2 s3 s4;obtain ⟨xa,xc,va,vc,cs,s1,s2,s3,s4⟩:=sk6.its.item hx;repeat (first|refine aF ?_|refine yI λ bk w' hg hbk hsz hsz'=>?_|refine yJ λ w' hu hbk hsz=>?_)
   have hg7:Grow w6 w':=aI hu oM hg;have k21:Blk w' bk 58 [.slice a1 n1 c1,.slice a2 n2 c2]:=hbk;have p1:=s1.grow hg7;have p3:=s3.grow hg7;have p4:=s4.grow hg7;have r1:=g1.grow hg7;have r2:=g2.grow hg7;have sk7:=sk6.grow hg7;clear hbk hu hg hsz hsz' g1 g2 s1 s3 s4 sk6 hg7;refine bD (e':=[(22,.int .i64 0),(21,.pointer (some ⟨bk,0,none⟩)),(19,.int .i64 (i:Int)),(87,.int .i64 (j:Int)),(86,.int .i64 3),(85,.slice (some ⟨bl,0,none⟩) 3 3),(18,.slice k.a k.b.length k.c),(15,.pointer (some ⟨cb,0,none⟩)),(13,.slice ra R.length rc),(5,.pointer (some ⟨b5,0,none⟩))]) ?_ ⟨rfl,rfl,rfl,rfl,rfl,rfl,rfl,rfl,rfl,rfl,trivial⟩;apply T.any 11 [is (.int .i64 0),is (.bool false),is (.bool false),is (.agg #[.slice a1 n1 c1,.slice a2 n2 c2]),is (.slice ra R.length rc),is (.int .i64 (i:Int)),is (.pointer (some (at' ra (i*2)))),is (.agg #[.slice xa it.1.length xc,.slice va it.2.length vc]),is (.bool true),is (.bool false),is (.bool false)]
   ·rfl
   ·repeat' (first|exact aN|refine aK ?_ ?_)
    iterate 6
     ·refine yQ λ wq _ _ hgq=>?_;repeat refine aF ?_
      exact aD rfl yG rfl
    ·refine yQ λ wq _ _ hgq=>?_;repeat (first|(refine aH ?_;refine aC (j:=i) rfl rfl rfl hlt rfl ⟨_,_,p1.grow hgq⟩ rfl ?_)|refine yC ?_)
     exact aD rfl yG rfl
    ·refine yQ λ wq _ _ hgq=>?_;repeat (first|(refine aO ?_;refine dR (o:=i*2) rfl (p1.grow hgq) s2 rfl rfl ?_)|refine yC ?_)
     exact aD rfl yG rfl
    ·refine yQ λ wq _ _ hgq=>?_;repeat (first|(refine aB 59 ?_;refine aA rfl (kitem_c (r1.grow hgq) (r2.grow hgq) (p3.grow hgq) (p4.grow hgq)) rfl ?_;rintro _ _ ⟨rfl,hgc⟩)|refine yC ?_)
     exact aD rfl hgc rfl
    iterate 2
     ·refine yQ λ wq _ _ hgq=>?_;repeat refine aF ?_
      exact aD rfl yG rfl
   ·intro w8 lo8 hi8 hg8' _ _;((refine yT ?_))
    repeat refine aF ?_
    exact aE (i+1,d'+1,pv6,fs6,ix6) ⟨rfl,rfl,rfl,rfl,rfl,rfl,rfl,rfl,trivial⟩ ⟨by simp only;omega,sk7.grow hg8',by simp only;omega,hrest⟩ (by simp only;omega)
end Go.Proofs.YtfpadnmdafiddaaGreatDoor
