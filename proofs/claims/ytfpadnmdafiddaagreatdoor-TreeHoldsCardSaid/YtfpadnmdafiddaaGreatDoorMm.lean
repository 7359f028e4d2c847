import Derived.Test.YtfpadnmdafiddaaGreatDoorMk
import Derived.Test.YtfpadnmdafiddaaGreatDoorMl
import Derived.Test.YtfpadnmdafiddaaGreatDoorMi
set_option linter.all false
set_option maxHeartbeats 16000000
set_option maxRecDepth 100000
namespace Go.V
open Go Go.RowKit
section
variable [Rn]
variable {P:Program} {n:Nat} {e:dQ} {w:World} {Q:dS} {ops:Array Oper} {rest:List Oper} {d:Nat} {ty:TypeId} {pos:String} {aft:Array Edge}
theorem TL.orP (j:Nat) {zx zy:Int} {x y:Operand} {kd:IntKind} {M a b:Nat} {t1 t2:TypeId} (hx:val e x=some (.int kd zx)) [ix:Lit zx a] (hy:val e y=some (.int kd zy)) [iy:Lit zy b] (hM:ulim kd=some M) (ha:a<2^j) (hb:b%2^j=0) (haM:a<M) (hbM:b<M) (hd:Nat.blt d n=true)
  (k:TL P n ops rest ((d,.int kd ((a+b:Nat):Int))::e) w Q):TL P n ops (⟨some d,.binOp .or t1 x y t2,ty,pos,aft,none⟩::rest) e w Q :=
 TL.run (λ r hr=>by
  rw [ix.h] at hx;rw [iy.h] at hy
  have e1:((BitVec.ofInt kd.bits (a:Int))|||(BitVec.ofInt kd.bits (b:Int))).toNat=a+b:=by
   rw [BitVec.toNat_or,bits_nat hM,bits_nat hM,Nat.mod_eq_of_lt haM,Nat.mod_eq_of_lt hbM,or_apart rfl ha hb]
  have hlt:a+b<M:=by
   rw [← e1,ulim_bits hM];exact BitVec.isLt _
  have e2:=fB hM hlt
  rw [← e1] at e2
  have hb:binOp .or t1 (.int kd (a:Int)) (.int kd (b:Int))=Pure.pure (.int kd ((a+b:Nat):Int)):=by
   simp only [binOp,Op.intBits,ne_eq,not_true_eq_false,if_false]
   rw [e2,e1]
  simp only [execOp,cB,hr.eval hx,hr.eval hy,hb]
  rfl) hd k
end
end Go.V
namespace Go.Proofs.YtfpadnmdafiddaaGreatDoor
open Go Go.RowKit Go.V
theorem Rd.lt {B b e:Nat} {r:Bs} {w:World} (h:Rd B b r e w):b<w.heap.size:=by
 obtain ⟨a,n,c,p,L,h1,_⟩:=h
 exact h1.lt
theorem Rd.bytes {B b e:Nat} {r:Bs} {w:World} (h:Rd B b r e w):∀ x∈r,x<256:=by
 obtain ⟨a,n,c,p,L,h1,h2,h3,h4,h5,h6⟩:=h
 intro x hx
 exact h5 x (List.mem_of_mem_drop (i:=p) (by rw [h6];exact hx))
theorem Rd.len {B b e:Nat} {r:Bs} {w:World} (h:Rd B b r e w):r.length≤1099511627776:=by
 obtain ⟨a,n,c,p,L,h1,h2,h3,h4,h5,h6⟩:=h
 have:=iD h2
 have:=congrArg List.length h6
 simp at this
 omega
theorem take_yes' {B b m:Nat} {r:Bs} {w:World} (h:Rd B b r 0 w) (hm:m≤r.length) :
  Calls Tryz.prog 256 #[.pointer (some ⟨b,0,none⟩),.int .u64 (m:Int)] w (Ret λ v w'=>∃ a' c',v=.tuple #[.slice a' m c',.bool true]∧Sl (λ k=>B≤k∧k<b) w' 1 a' m c' (cX (r.take m))∧Rd B b (r.drop m) 0 w'∧Mut b w w'):=by
 obtain ⟨a,n,c,p,L,h1,h2,h3,h4,h5,h6⟩:=h
 have hl:=iD h2
 have hr:=congrArg List.length h6
 simp at hr
 refine Calls.mono (take_yes _ b a n c p m L w h1 h2 (by omega) (by omega) h3 (by omega)) (λ x w' hx=>Ret.mono hx λ v w' hv=>?_)
 obtain ⟨a',c',q1,q2,q3,q4⟩:=hv
 exact ⟨a',c',q1,by rw [← h6];exact q2,⟨a,n,c,p+m,L,q3,lC h2 q4 (by omega),by omega,h4,h5,by rw [← List.drop_drop,h6]⟩,q4⟩
theorem take_no' {B b m:Nat} {r:Bs} {w:World} (h:Rd B b r 0 w) (hm:r.length<m) (hm2:m<18446744073709551616) :
  Calls Tryz.prog 256 #[.pointer (some ⟨b,0,none⟩),.int .u64 (m:Int)] w (Ret λ v w'=>v=.tuple #[.slice none 0 0,.bool false]∧Rd B b r 5 w'∧Mut b w w'):=by
 obtain ⟨a,n,c,p,L,h1,h2,h3,h4,h5,h6⟩:=h
 have hl:=iD h2
 have hr:=congrArg List.length h6
 simp at hr
 refine Calls.mono (take_no b a n c p m w h1 (by omega) h3 (by omega) hm2) (λ x w' hx=>Ret.mono hx λ v w' hv=>?_)
 obtain ⟨q1,q3,q4⟩:=hv
 exact ⟨q1,⟨a,n,c,p,L,q3,lC h2 q4 (by omega),h3,h4,h5,h6⟩,q4⟩
theorem take_err' {B b m e:Nat} {r:Bs} {w:World} (h:Rd B b r e w) (he:e≠0) :
  Calls Tryz.prog 256 #[.pointer (some ⟨b,0,none⟩),.int .u64 (m:Int)] w (Ret λ v w'=>v=.tuple #[.slice none 0 0,.bool false]∧w=w'):=by
 obtain ⟨a,n,c,p,L,h1,h2⟩:=h
 exact take_err b a n c p e m w h1 he
theorem left' {B b e:Nat} {r:Bs} {w:World} (h:Rd B b r e w) :
  Calls Tryz.prog 225 #[.pointer (some ⟨b,0,none⟩)] w (Ret λ v w'=>v=.int .i64 (r.length:Int)∧Grow w w'):=by
 obtain ⟨a,n,c,p,L,h1,h2,h3,h4,h5,h6⟩:=h
 have hl:=iD h2
 have hr:=congrArg List.length h6
 simp at hr
 have:=left_c b a n c p e w h1 (by omega) h3
 rwa [show n-p=r.length by omega] at this
def leW (r:Bs):Nat→Nat
 | 0=>0
 | i+1=>leW r i+r.getD i 0*2^(8*i)
theorem leW_lt {r:Bs} (hr:∀ x∈r,x<256):∀ i,leW r i<2^(8*i)
 | 0=>by simp [leW]
 | i+1=>by
  have ih:=leW_lt hr i
  have hg:r.getD i 0<256:=by
   rw [List.getD_eq_getElem?_getD]
   cases hx:r[i]? with
   | none=>simp
   | some x=>exact hr x (List.mem_of_getElem? hx)
  simp only [leW]
  rw [show 8*(i+1)=8*i+8 by omega,Nat.pow_add]
  generalize 2^(8*i)=X at *
  have:(r.getD i 0+1)*X≤256*X:=Nat.mul_le_mul_right _ (by omega)
  rw [Nat.add_mul] at this
  omega
theorem le4_eq (r:Bs):leW r 4=le4 r:=by simp [leW,le4];omega
theorem word_yes {B b m:Nat} {r:Bs} {w:World} (h:Rd B b r 0 w) (h1:1≤m) (h8:m≤8) (hm:m≤r.length) :
  Calls Tryz.prog 221 #[.pointer (some ⟨b,0,none⟩),.int .i64 (m:Int)] w (Ret λ v w'=>v=.int .u64 (leW r m:Int)∧Rd B b (r.drop m) 0 w'∧Mut b w w'):=by
 have hby:=h.bytes
 refine V.calls (args:=[_,_]) Tryz.func221 rfl Tryz.ntmps221 rfl rfl ?_
 repeat (first|(refine aL 214 ?_;refine aI rfl (clamp_c m h1 h8 _) rfl ?_;rintro _ _ ⟨rfl,rfl⟩)|(refine aB ?_;refine TL.pure rfl rfl ?_)|(refine aD ?_;refine TL.pure rfl rfl ?_)|refine TL.nil ?_|refine aA ?_|refine aJ ?_|refine aC ?_|(refine cR ?_;refine eQ rfl rfl (by omega) rfl ?_))
 refine aI rfl (take_yes' h hm) rfl ?_
 rintro _ w1 ⟨a,c,rfl,hs,hr1,hm1⟩
 repeat (first|(refine aB ?_;refine TL.pure rfl rfl ?_)|(refine aD ?_;refine TL.pure rfl rfl ?_)|refine TL.nil ?_|refine aA ?_|refine aJ ?_|refine aC ?_|refine T.block ?_|refine aO rfl rfl ?_|refine aE rfl ?_|refine aW ?_|refine TL.pure rfl rfl ?_)
 refine cU (S:=Nat) (λ i=>[(22,.int .i64 (i:Int)),(21,.int .i64 (m:Int)),(20,.slice a m c),(7,.int .u64 (leW r i:Int))]) (λ i w'=>i≤m∧w1=w') (λ i=>m-i) 0 ⟨rfl,rfl,rfl,rfl,trivial⟩ ⟨by omega,rfl⟩ ?_
 rintro i _ ⟨hi,rfl⟩
 by_cases hlt:i<m
 ·obtain ⟨p,hp⟩:∃ p,r[i]? = some p:=⟨_,List.getElem?_eq_getElem (by omega)⟩
  have hp2:(r.take m)[i]? = some p:=by rw [List.getElem?_take,if_pos hlt];exact hp
  have hcx:w1.cell? (at' a i)=some (.int .u8 (p:Int)):=hs.row.cell (by unfold cX;rw [List.getElem?_map,hp2];rfl)
  have hp256:=hby p (List.mem_of_getElem? hp)
  have hpw:p*2^(8*i)<18446744073709551616:=by
   have:(2:Nat)^(8*i)≤2^56:=Nat.pow_le_pow_right (by decide) (by omega)
   have h3:p*2^(8*i)≤255*2^56:=Nat.mul_le_mul (by omega) this
   omega
  have hl1:=leW_lt hby i
  have hl2:leW r i<18446744073709551616:=by
   have:(2:Nat)^(8*i)≤2^64:=Nat.pow_le_pow_right (by decide) (by omega)
   omega
  have hst:leW r (i+1)=leW r i+p*2^(8*i):=by simp [leW,List.getD_eq_getElem?_getD,hp]
  repeat (first|(refine bC ?_;refine aV rfl rfl rfl hlt (Nat.mul_one _) ⟨_,_,hs⟩ rfl ?_)|(refine hE ?_;refine hY (a:=8) rfl rfl (by omega) rfl ?_)|(refine TL.isShl ?_;refine TL.shlS (M:=18446744073709551616) rfl rfl rfl (by show 8*i≤64;omega) hpw rfl ?_)|(refine TL.isOr ?_;refine TL.orP (8*i) rfl rfl rfl hl1 (by simp) hl2 hpw rfl ?_)|(refine aB ?_;refine TL.pure rfl rfl ?_)|(refine aD ?_;refine TL.pure rfl rfl ?_)|refine aK rfl yM rfl ?_|(refine bL ?_;refine bT rfl rfl (by omega) rfl ?_)|refine TL.nil ?_|refine aA ?_|refine aJ ?_|refine aC ?_|refine T.block ?_|refine aS ?_|(refine aH ?_;refine aZ rfl yD rfl ?_)|(refine cR ?_;refine eQ rfl rfl (by omega) rfl ?_)|refine aM rfl ?_|refine aW ?_)
  rw [← hst]
  exact bG (i+1) ⟨rfl,rfl,rfl,rfl,trivial⟩ ⟨hlt,rfl⟩ (by omega)
 ·obtain rfl:i=m:=by omega
  repeat (first|(refine aB ?_;refine TL.pure rfl rfl ?_)|(refine aD ?_;refine TL.pure rfl rfl ?_)|refine TL.nil ?_|refine aA ?_|refine aJ ?_|refine aC ?_|(refine aH ?_;refine aQ rfl yD rfl ?_)|refine aE rfl ?_|refine bE ?_|refine cV ?_|refine bN ?_|refine bP ?_|refine bO ?_)
  exact cI rfl ⟨_,rfl,rfl,hr1,hm1⟩
theorem word_no {B b m:Nat} {r:Bs} {w:World} (h:Rd B b r 0 w) (h1:1≤m) (h8:m≤8) (hm:r.length<m) :
  Calls Tryz.prog 221 #[.pointer (some ⟨b,0,none⟩),.int .i64 (m:Int)] w (Ret λ v w'=>v=.int .u64 0∧Rd B b r 5 w'∧Mut b w w'):=by
 refine V.calls (args:=[_,_]) Tryz.func221 rfl Tryz.ntmps221 rfl rfl ?_
 repeat (first|(refine aL 214 ?_;refine aI rfl (clamp_c m h1 h8 _) rfl ?_;rintro _ _ ⟨rfl,rfl⟩)|(refine aB ?_;refine TL.pure rfl rfl ?_)|(refine aD ?_;refine TL.pure rfl rfl ?_)|refine TL.nil ?_|refine aA ?_|refine aJ ?_|refine aC ?_|(refine cR ?_;refine eQ rfl rfl (by omega) rfl ?_))
 refine aI rfl (take_no' h hm (by omega)) rfl ?_
 rintro _ w1 ⟨rfl,hr1,hm1⟩
 repeat (first|(refine aB ?_;refine TL.pure rfl rfl ?_)|(refine aD ?_;refine TL.pure rfl rfl ?_)|refine TL.nil ?_|refine aA ?_|refine aJ ?_|refine aC ?_|refine aM rfl ?_|refine bE ?_|refine bI ?_|refine TL.pure rfl rfl ?_)
 exact cI rfl ⟨_,rfl,rfl,hr1,hm1⟩
theorem word_err {B b m e:Nat} {r:Bs} {w:World} (h:Rd B b r e w) (he:e≠0) (h1:1≤m) (h8:m≤8) :
  Calls Tryz.prog 221 #[.pointer (some ⟨b,0,none⟩),.int .i64 (m:Int)] w (Ret λ v w'=>v=.int .u64 0∧w=w'):=by
 refine V.calls (args:=[_,_]) Tryz.func221 rfl Tryz.ntmps221 rfl rfl ?_
 repeat (first|(refine aL 214 ?_;refine aI rfl (clamp_c m h1 h8 _) rfl ?_;rintro _ _ ⟨rfl,rfl⟩)|(refine aB ?_;refine TL.pure rfl rfl ?_)|(refine aD ?_;refine TL.pure rfl rfl ?_)|refine TL.nil ?_|refine aA ?_|refine aJ ?_|refine aC ?_|(refine cR ?_;refine eQ rfl rfl (by omega) rfl ?_))
 refine aI rfl (take_err' h he) rfl ?_
 rintro _ _ ⟨rfl,rfl⟩
 repeat (first|(refine aB ?_;refine TL.pure rfl rfl ?_)|(refine aD ?_;refine TL.pure rfl rfl ?_)|refine TL.nil ?_|refine aA ?_|refine aJ ?_|refine aC ?_|refine aM rfl ?_|refine bE ?_|refine bI ?_|refine TL.pure rfl rfl ?_)
 exact cI rfl ⟨_,rfl,rfl,rfl⟩
theorem take_all {B b:Nat} {r:Bs} {w:World} (h:Rd B b r 0 w) :
  Calls Tryz.prog 224 #[.pointer (some ⟨b,0,none⟩),.int .i64 (r.length:Int)] w (Ret λ v w'=>∃ a c,v=.slice a r.length c∧Sl (λ k=>w.heap.size≤k) w' 1 a r.length c (cX r)∧Rd B b [] 0 w'∧Mut b w w'):=by
 have hlen:=h.len
 have hlt:=h.lt
 refine V.calls (args:=[_,_]) Tryz.func224 rfl Tryz.ntmps224 rfl rfl ?_
 repeat (first|(refine jG ?_;refine TL.maxV (r:=(r.length:Int)) rfl rfl (by split<;>omega) rfl ?_)|(refine aB ?_;refine TL.pure rfl rfl ?_)|(refine aD ?_;refine TL.pure rfl rfl ?_)|refine TL.nil ?_|refine aA ?_|refine aJ ?_|refine aC ?_|(refine cR ?_;refine eQ rfl rfl (by omega) rfl ?_))
 refine aI rfl (take_yes' h (Nat.le_refl _)) rfl ?_
 rintro _ w1 ⟨a,c,rfl,hs,hr1,hm1⟩
 rw [List.take_length] at hs
 rw [List.drop_length] at hr1
 repeat (first|(refine aB ?_;refine TL.pure rfl rfl ?_)|(refine aD ?_;refine TL.pure rfl rfl ?_)|refine TL.nil ?_|refine aA ?_|refine aJ ?_|refine aC ?_|refine aE rfl ?_|refine aW ?_|refine TL.pure rfl rfl ?_)
 refine aI rfl (grown_c _ a _ c 0 (cX r) _ hs (eD _) (by omega)) rfl ?_
 rintro v2 w2 ⟨hown,hg2⟩
 obtain ⟨a2,c2,rfl,hs2⟩:=bX hown
 repeat (first|(refine aD ?_;refine TL.pure rfl rfl ?_)|refine TL.nil ?_|refine aA ?_|refine bE ?_)
 have:=hm1.size
 exact cI rfl ⟨_,rfl,a2,c2,rfl,hs2.mono (λ k hk=>by have:=hk.1;omega),hr1.grow hg2,hm1.trans (jJ hg2)⟩
theorem take_alle {B b e:Nat} {r:Bs} {w:World} (h:Rd B b r e w) (he:e≠0) :
  Calls Tryz.prog 224 #[.pointer (some ⟨b,0,none⟩),.int .i64 (r.length:Int)] w (Ret λ v w'=>v=.slice none 0 0∧w=w'):=by
 have hlen:=h.len
 refine V.calls (args:=[_,_]) Tryz.func224 rfl Tryz.ntmps224 rfl rfl ?_
 repeat (first|(refine jG ?_;refine TL.maxV (r:=(r.length:Int)) rfl rfl (by split<;>omega) rfl ?_)|(refine aB ?_;refine TL.pure rfl rfl ?_)|(refine aD ?_;refine TL.pure rfl rfl ?_)|refine TL.nil ?_|refine aA ?_|refine aJ ?_|refine aC ?_|(refine cR ?_;refine eQ rfl rfl (by omega) rfl ?_))
 refine aI rfl (take_err' h he) rfl ?_
 rintro _ _ ⟨rfl,rfl⟩
 repeat (first|(refine aB ?_;refine TL.pure rfl rfl ?_)|(refine aD ?_;refine TL.pure rfl rfl ?_)|refine TL.nil ?_|refine aA ?_|refine aJ ?_|refine aC ?_|refine aM rfl ?_|refine bE ?_|refine bI ?_|refine TL.pure rfl rfl ?_)
 exact cI rfl ⟨_,rfl,rfl,rfl⟩
end Go.Proofs.YtfpadnmdafiddaaGreatDoor
namespace Go.Proofs.YtfpadnmdafiddaaGreatDoor
open Go Go.RowKit Go.V
theorem rdblk_ok {B b:Nat} {r p r':Bs} {w:World} (h:Rd B b r 0 w) (hr:kI r=some (p,r')) :
  Calls Tryz.prog 223 #[.pointer (some ⟨b,0,none⟩)] w (Ret λ v w'=>∃ a c,v=.slice a p.length c∧Sl (λ k=>w.heap.size≤k) w' 1 a p.length c (cX p)∧Rd B b r' 0 w'∧Mut b w w'):=by
 have hby:=h.bytes
 have hlen:=h.len
 have hrl:=h.lt
 obtain ⟨a,n,c,q,L,h1,h2,h3,h4,h5,h6⟩:=h
 have hl:=iD h2
 have hrr:=congrArg List.length h6
 simp at hrr
 unfold kI at hr
 split at hr
 rotate_left
 ·cases hr
 rename_i hn0
 split at hr
 rotate_left
 ·cases hr
 rename_i hfit
 cases r with
 | nil=>simp [gP] at hn0
 | cons f t =>
  have hc:=numV_le f t
  simp only [Option.some.injEq,Prod.mk.injEq] at hr
  obtain ⟨hp,hr'⟩:=hr
  have hvb:=numV_back (r:=f::t) (v:=(gP (f::t)).1) (k:=(gP (f::t)).2.1) hby (by rw [← hn0])
  refine V.calls (args:=[_]) Tryz.func223 rfl Tryz.ntmps223 rfl rfl ?_
  have hb2:=h1
  unfold rdr at hb2
  repeat (first|(refine aL 257 ?_;refine aI rfl (made_c b a n c q 0 _ h1) rfl ?_;rintro _ _ ⟨rfl,rfl⟩)|(refine aB ?_;refine TL.pure rfl rfl ?_)|(refine aD ?_;refine TL.pure rfl rfl ?_)|refine aK rfl yM rfl ?_|refine aF rfl rfl ?_|refine TL.nil ?_|refine aA ?_|refine aJ ?_|refine aC ?_|refine bM rfl rfl ?_|refine aE rfl ?_|refine aW ?_|refine TL.pure rfl rfl ?_)
  refine aI rfl (rnum_some _ b a n c q L f t _ h1 h2 (by omega) (by omega) h3 h5 h6) rfl ?_
  rintro _ w1 ⟨rfl,hb1,hm1⟩
  rw [hn0] at hb1
  clear hb2
  repeat (first|(refine aB ?_;refine TL.pure rfl rfl ?_)|(refine aD ?_;refine TL.pure rfl rfl ?_)|refine TL.nil ?_|refine aA ?_|refine aJ ?_|refine aC ?_)
  have hs1:=lC h2 hm1 (by omega)
  have e3:L.drop (q+(gP (f::t)).2.1)=(f::t).drop (gP (f::t)).2.1:=by rw [← List.drop_drop,h6]
  have hle:(gP (f::t)).1≤n-(q+(gP (f::t)).2.1):=by
   have:=hfit
   rw [List.length_drop] at this
   simp only [List.length_cons] at this hrr
   omega
  refine aI rfl (take_yes _ b a n c (q+(gP (f::t)).2.1) (gP (f::t)).1 L _ hb1 hs1 (by omega) (by omega) (by simp only [List.length_cons] at hc hrr;omega) hle) rfl ?_
  rintro _ w2 ⟨a2,c2,rfl,hs2,hb3,hm2⟩
  rw [e3,hp] at hs2
  have hpl:(gP (f::t)).1=p.length:=iD hs2
  rw [hpl] at hs2 ⊢
  repeat (first|(refine aB ?_;refine TL.pure rfl rfl ?_)|(refine aD ?_;refine TL.pure rfl rfl ?_)|refine TL.nil ?_|refine aA ?_|refine aJ ?_|refine aC ?_|refine aE rfl ?_|refine aW ?_|refine TL.pure rfl rfl ?_)
  refine aI rfl (grown_c _ a2 p.length c2 0 (cX p) _ hs2 (eD _) (by have:=hs2.cap;rw [← hpl];omega)) rfl ?_
  rintro v3 w3 ⟨hown,hg3⟩
  obtain ⟨a4,c4,rfl,hs4⟩:=bX hown
  repeat (first|(refine aD ?_;refine TL.pure rfl rfl ?_)|refine TL.nil ?_|refine aA ?_|refine bE ?_)
  have:=hm1.size
  have:=hm2.size
  refine cI rfl ⟨_,rfl,a4,c4,rfl,hs4.mono (λ k hk=>by have:=hk.1;omega),Rd.grow ⟨a,n,c,q+(gP (f::t)).2.1+(gP (f::t)).1,L,hb3,lC hs1 hm2 (by omega),by omega,h4,h5,?_⟩ hg3,(hm1.trans hm2).trans (jJ hg3)⟩
  rw [← hr',← List.drop_drop,e3]
theorem rdblk_no {B b e:Nat} {r:Bs} {w:World} (h:Rd B b r e w) (hr:e≠0∨kI r=none) :
  Calls Tryz.prog 223 #[.pointer (some ⟨b,0,none⟩)] w (Ret λ v w'=>v=.slice none 0 0∧(∃ e',e'≠0∧Rd B b r e' w')∧Mut b w w'):=by
 have hby:=h.bytes
 have hlen:=h.len
 have hrl:=h.lt
 obtain ⟨a,n,c,q,L,h1,h2,h3,h4,h5,h6⟩:=h
 have hl:=iD h2
 have hrr:=congrArg List.length h6
 simp at hrr
 refine V.calls (args:=[_]) Tryz.func223 rfl Tryz.ntmps223 rfl rfl ?_
 have hb2:=h1
 unfold rdr at hb2
 have fin:∀ (w1:World) (q1 e1:Nat),e1≠0→Blk w1 b 329 (rdr b a n c q1 e1)→Mut b w w1→Sl (λ k=>B≤k∧k<b) w1 1 a n c (cX L)→∀ w2:World,Blk w2 b 329 (rdr b a n c q e1)→Mut b w1 w2→(∃ e',e'≠0∧Rd B b r e' w2)∧Mut b w w2:=by
  intro w1 q1 e1 he hb1 hm1 hs1 w2 hb2 hm2
  exact ⟨⟨e1,he,a,n,c,q,L,hb2,lC hs1 hm2 (by omega),h3,h4,h5,h6⟩,hm1.trans hm2⟩
 by_cases he:e=0
 rotate_left
 ·repeat (first|(refine aL 257 ?_;refine aI rfl (made_c b a n c q e _ h1) rfl ?_;rintro _ _ ⟨rfl,rfl⟩)|(refine aL 258 ?_;refine aI rfl (rnum_err b a n c q e _ h1 he) rfl ?_;rintro _ _ ⟨rfl,rfl⟩)|(refine aL 256 ?_;refine aI rfl (take_err b a n c q e 0 _ h1 he) rfl ?_;rintro _ _ ⟨rfl,rfl⟩)|(refine aB ?_;refine TL.pure rfl rfl ?_)|(refine aD ?_;refine TL.pure rfl rfl ?_)|refine aK rfl yM rfl ?_|refine aF rfl rfl ?_|refine TL.nil ?_|refine aA ?_|refine aJ ?_|refine aC ?_|refine bM rfl rfl ?_|refine aM rfl ?_|refine aE rfl ?_|refine aW ?_|refine TL.pure rfl rfl ?_)
  refine aI rfl (fail_c b a n c q e q e _ h1) rfl ?_
  rintro _ w4 ⟨hb4,hm4⟩
  repeat (first|(refine aD ?_;refine TL.pure rfl rfl ?_)|refine TL.nil ?_|refine aA ?_|refine aJ ?_|refine aC ?_|refine bE ?_|refine bI ?_)
  obtain ⟨g1,g2⟩:=fin w q e he h1 (jJ (Grow.refl _)) h2 w4 hb4 hm4
  exact cI rfl ⟨_,rfl,rfl,g1,g2⟩
 subst he
 have hr:=hr.resolve_left (λ h=>h rfl)
 cases r with
 | nil =>
  have hq:q=n:=by simp at hrr;omega
  subst hq
  repeat (first|(refine aL 257 ?_;refine aI rfl (made_c b a q c q 0 _ h1) rfl ?_;rintro _ _ ⟨rfl,rfl⟩)|(refine aB ?_;refine TL.pure rfl rfl ?_)|(refine aD ?_;refine TL.pure rfl rfl ?_)|refine aK rfl yM rfl ?_|refine aF rfl rfl ?_|refine TL.nil ?_|refine aA ?_|refine aJ ?_|refine aC ?_|refine bM rfl rfl ?_|refine aE rfl ?_|refine aW ?_|refine TL.pure rfl rfl ?_)
  refine aI rfl (rnum_none b a q c _ h1 (by omega)) rfl ?_
  rintro _ w1 ⟨rfl,hb1,hm1⟩
  have hb1':=hb1
  unfold rdr at hb1'
  clear hb2
  repeat (first|(refine aL 256 ?_;refine aI rfl (take_err b a q c q 5 0 _ hb1 (by omega)) rfl ?_;rintro _ _ ⟨rfl,rfl⟩)|(refine aB ?_;refine TL.pure rfl rfl ?_)|(refine aD ?_;refine TL.pure rfl rfl ?_)|refine aK rfl yM rfl ?_|refine aF rfl rfl ?_|refine TL.nil ?_|refine aA ?_|refine aJ ?_|refine aC ?_|refine bM rfl rfl ?_|refine aM rfl ?_|refine TL.pure rfl rfl ?_)
  refine aI rfl (fail_c b a q c q 5 q 5 _ hb1) rfl ?_
  rintro _ w4 ⟨hb4,hm4⟩
  repeat (first|(refine aD ?_;refine TL.pure rfl rfl ?_)|refine TL.nil ?_|refine aA ?_|refine aJ ?_|refine aC ?_|refine bE ?_|refine bI ?_)
  obtain ⟨g1,g2⟩:=fin w1 q 5 (by omega) hb1 hm1 (lC h2 hm1 (by omega)) w4 hb4 hm4
  exact cI rfl ⟨_,rfl,rfl,g1,g2⟩
 | cons f t =>
  have hc:=numV_le f t
  repeat (first|(refine aL 257 ?_;refine aI rfl (made_c b a n c q 0 _ h1) rfl ?_;rintro _ _ ⟨rfl,rfl⟩)|(refine aB ?_;refine TL.pure rfl rfl ?_)|(refine aD ?_;refine TL.pure rfl rfl ?_)|refine aK rfl yM rfl ?_|refine aF rfl rfl ?_|refine TL.nil ?_|refine aA ?_|refine aJ ?_|refine aC ?_|refine bM rfl rfl ?_|refine aE rfl ?_|refine aW ?_|refine TL.pure rfl rfl ?_)
  refine aI rfl (rnum_some _ b a n c q L f t _ h1 h2 (by omega) (by omega) h3 h5 h6) rfl ?_
  rintro _ w1 ⟨rfl,hb1,hm1⟩
  have hs1:=lC h2 hm1 (by omega)
  by_cases hn0:(gP (f::t)).2.2=0
  ·rw [hn0] at hb1
   have hvb:=numV_back (r:=f::t) (v:=(gP (f::t)).1) (k:=(gP (f::t)).2.1) hby (by rw [← hn0])
   have hfit:¬ (gP (f::t)).1≤((f::t).drop (gP (f::t)).2.1).length:=by
    intro hf
    unfold kI at hr
    rw [if_pos hn0,if_pos hf] at hr
    cases hr
   rw [List.length_drop] at hfit
   simp only [List.length_cons] at hfit hrr hc
   clear hb2
   repeat (first|(refine aB ?_;refine TL.pure rfl rfl ?_)|(refine aD ?_;refine TL.pure rfl rfl ?_)|refine TL.nil ?_|refine aA ?_|refine aJ ?_|refine aC ?_)
   refine aI rfl (take_no b a n c (q+(gP (f::t)).2.1) (gP (f::t)).1 _ hb1 (by omega) (by omega) (by omega) hvb.2.2) rfl ?_
   rintro _ w2 ⟨rfl,hb3,hm2⟩
   have hb3':=hb3
   unfold rdr at hb3'
   repeat (first|(refine aB ?_;refine TL.pure rfl rfl ?_)|(refine aD ?_;refine TL.pure rfl rfl ?_)|refine aK rfl yM rfl ?_|refine aF rfl rfl ?_|refine TL.nil ?_|refine aA ?_|refine aJ ?_|refine aC ?_|refine bM rfl rfl ?_|refine aM rfl ?_|refine TL.pure rfl rfl ?_)
   refine aI rfl (fail_c b a n c _ 5 q 5 _ hb3) rfl ?_
   rintro _ w4 ⟨hb4,hm4⟩
   repeat (first|(refine aD ?_;refine TL.pure rfl rfl ?_)|refine TL.nil ?_|refine aA ?_|refine aJ ?_|refine aC ?_|refine bE ?_|refine bI ?_)
   obtain ⟨g1,g2⟩:=fin w2 _ 5 (by omega) hb3 (hm1.trans hm2) (lC hs1 hm2 (by omega)) w4 hb4 hm4
   exact cI rfl ⟨_,rfl,rfl,g1,g2⟩
  ·have hb1':=hb1
   unfold rdr at hb1'
   clear hb2
   repeat (first|(refine aB ?_;refine TL.pure rfl rfl ?_)|(refine aD ?_;refine TL.pure rfl rfl ?_)|refine TL.nil ?_|refine aA ?_|refine aJ ?_|refine aC ?_)
   refine aI rfl (take_err b a n c _ _ _ _ hb1 hn0) rfl ?_
   rintro _ _ ⟨rfl,rfl⟩
   repeat (first|(refine aB ?_;refine TL.pure rfl rfl ?_)|(refine aD ?_;refine TL.pure rfl rfl ?_)|refine aK rfl yM rfl ?_|refine aF rfl rfl ?_|refine TL.nil ?_|refine aA ?_|refine aJ ?_|refine aC ?_|refine bM rfl rfl ?_|refine aM rfl ?_|refine TL.pure rfl rfl ?_)
   refine aI rfl (fail_c b a n c _ _ q _ _ hb1) rfl ?_
   rintro _ w4 ⟨hb4,hm4⟩
   repeat (first|(refine aD ?_;refine TL.pure rfl rfl ?_)|refine TL.nil ?_|refine aA ?_|refine aJ ?_|refine aC ?_|refine bE ?_|refine bI ?_)
   obtain ⟨g1,g2⟩:=fin w1 _ _ hn0 hb1 hm1 hs1 w4 hb4 hm4
   exact cI rfl ⟨_,rfl,rfl,g1,g2⟩
end Go.Proofs.YtfpadnmdafiddaaGreatDoor
namespace Go.Proofs.YtfpadnmdafiddaaGreatDoor
open Go Go.RowKit Go.V
def RS (B b:Nat) (o:Option Bs) (w:World):Prop:=match o with
 | some r=>Rd B b r 0 w
 | none=>∃ r e,e≠0∧Rd B b r e w
def hZ:Option Bs→Bs×Option Bs
 | none=>([],none)
 | some r=>match kI r with
  | some (p,r')=>(p,some r')
  | none=>([],none)
def rdW (m:Nat):Option Bs→Nat×Option Bs
 | none=>(0,none)
 | some r=>if m≤r.length then (leW r m,some (r.drop m)) else (0,none)
theorem RS.grow {B b:Nat} {o:Option Bs} {w w':World} (h:RS B b o w) (g:Grow w w'):RS B b o w':=by
 cases o with
 | some r=>exact Rd.grow h g
 | none=>obtain ⟨r,e,he,h⟩:=h;exact ⟨r,e,he,h.grow g⟩
theorem RS.lt {B b:Nat} {o:Option Bs} {w:World} (h:RS B b o w):b<w.heap.size:=by
 cases o with
 | some r=>exact Rd.lt h
 | none=>obtain ⟨r,e,he,h⟩:=h;exact h.lt
theorem rs_block {B b:Nat} {o:Option Bs} {w:World} (h:RS B b o w) :
  Calls Tryz.prog 223 #[.pointer (some ⟨b,0,none⟩)] w (Ret λ v w'=>∃ a c,v=.slice a (hZ o).1.length c∧Sl (λ k=>w.heap.size≤k) w' 1 a (hZ o).1.length c (cX (hZ o).1)∧RS B b (hZ o).2 w'∧Mut b w w'):=by
 cases o with
 | none =>
  obtain ⟨r,e,he,h⟩:=h
  refine Calls.mono (rdblk_no h (.inl he)) (λ x w' hx=>Ret.mono hx λ v w' hv=>?_)
  obtain ⟨q1,⟨e',q2,q3⟩,q4⟩:=hv
  exact ⟨none,0,q1,Sl.nil_mk _ _ _,⟨r,e',q2,q3⟩,q4⟩
 | some r =>
  cases hr:kI r with
  | none =>
   have e1:hZ (some r)=([],none):=by simp [hZ,hr]
   rw [e1]
   refine Calls.mono (rdblk_no h (.inr hr)) (λ x w' hx=>Ret.mono hx λ v w' hv=>?_)
   obtain ⟨q1,⟨e',q2,q3⟩,q4⟩:=hv
   exact ⟨none,0,q1,Sl.nil_mk _ _ _,⟨r,e',q2,q3⟩,q4⟩
  | some x =>
   obtain ⟨p,r'⟩:=x
   have e1:hZ (some r)=(p,some r'):=by simp [hZ,hr]
   rw [e1]
   exact rdblk_ok h hr
theorem rs_word {B b m:Nat} {o:Option Bs} {w:World} (h:RS B b o w) (h1:1≤m) (h8:m≤8) :
  Calls Tryz.prog 221 #[.pointer (some ⟨b,0,none⟩),.int .i64 (m:Int)] w (Ret λ v w'=>v=.int .u64 ((rdW m o).1:Int)∧RS B b (rdW m o).2 w'∧Mut b w w'):=by
 cases o with
 | none =>
  have h0:=h
  obtain ⟨r,e,he,h⟩:=h
  refine Calls.mono (word_err h he h1 h8) (λ x w' hx=>Ret.mono hx λ v w' hv=>?_)
  obtain ⟨q1,rfl⟩:=hv
  exact ⟨q1,h0,jJ (Grow.refl _)⟩
 | some r =>
  by_cases hm:m≤r.length
  ·simp only [rdW,if_pos hm]
   exact word_yes h h1 h8 hm
  ·simp only [rdW,if_neg hm]
   refine Calls.mono (word_no h h1 h8 (by omega)) (λ x w' hx=>Ret.mono hx λ v w' hv=>?_)
   obtain ⟨q1,q2,q3⟩:=hv
   exact ⟨q1,⟨r,5,by omega,q2⟩,q3⟩
theorem rs_err {B b:Nat} {o:Option Bs} {w:World} (h:RS B b o w) :
  Calls Tryz.prog 222 #[.pointer (some ⟨b,0,none⟩)] w (Ret λ v w'=>(∃ e:Nat,v=.int .i64 (e:Int)∧(e=0↔o≠none))∧w=w'):=by
 cases o with
 | none =>
  obtain ⟨r,e,he,h⟩:=h
  refine Calls.mono (rderr_c w h) (λ x w' hx=>Ret.mono hx λ v w' hv=>?_)
  exact ⟨⟨e,hv.1,by simp [he]⟩,hv.2⟩
 | some r =>
  refine Calls.mono (rderr_c w h) (λ x w' hx=>Ret.mono hx λ v w' hv=>?_)
  exact ⟨⟨0,hv.1,by simp⟩,hv.2⟩
theorem rs_rest {B b:Nat} {o:Option Bs} {w:World} (h:RS B b o w):∃ n:Nat,n≤1099511627776 ∧
  Calls Tryz.prog 225 #[.pointer (some ⟨b,0,none⟩)] w (Ret λ v w'=>v=.int .i64 (n:Int)∧Grow w w') ∧
  ∀ w1,RS B b o w1→Grow w w1→Calls Tryz.prog 224 #[.pointer (some ⟨b,0,none⟩),.int .i64 (n:Int)] w1 (Ret λ v w'=>∃ a c,v=.slice a (o.getD []).length c∧Sl (λ k=>w1.heap.size≤k) w' 1 a (o.getD []).length c (cX (o.getD []))∧RS B b (o.map λ _=>[]) w'∧Mut b w1 w'):=by
 cases o with
 | none =>
  obtain ⟨r,e,he,h⟩:=h
  refine ⟨r.length,h.len,left' h,λ w1 h1 hg=>?_⟩
  refine Calls.mono (take_alle (h.grow hg) he) (λ x w' hx=>Ret.mono hx λ v w' hv=>?_)
  obtain ⟨q1,rfl⟩:=hv
  exact ⟨none,0,q1,Sl.nil_mk _ _ _,⟨r,e,he,h.grow hg⟩,jJ (Grow.refl _)⟩
 | some r =>
  refine ⟨r.length,Rd.len h,left' h,λ w1 h1 hg=>?_⟩
  exact take_all h1
def kH:Nat→Option Bs→dO×Option Bs
 | 0,o=>([],o)
 | c+1,o=>(((hZ o).1,(hZ (hZ o).2).1)::(kH c (hZ (hZ o).2).2).1,(kH c (hZ (hZ o).2).2).2)
def jX:Nat→Option Bs→List Nat×Option Bs
 | 0,o=>([],o)
 | c+1,o=>((rdW 4 o).1::(jX c (rdW 4 o).2).1,(jX c (rdW 4 o).2).2)
def kG:Nat→Option Bs→List Bs×Option Bs
 | 0,o=>([],o)
 | c+1,o=>((hZ o).1::(kG c (hZ o).2).1,(kG c (hZ o).2).2)
theorem rdIts_none:∀ c,(kH c none).2=none
 | 0=>rfl
 | c+1=>by simp only [kH,hZ];exact rdIts_none c
theorem rdKds_none:∀ c,(jX c none).2=none
 | 0=>rfl
 | c+1=>by simp only [jX,rdW];exact rdKds_none c
theorem rdKys_none:∀ c,(kG c none).2=none
 | 0=>rfl
 | c+1=>by simp only [kG,hZ];exact rdKys_none c
theorem rdItems_eq:∀ (c:Nat) (r:Bs),kP c r=(kH c (some r)).2.map λ r'=>((kH c (some r)).1,r')
 | 0,r=>rfl
 | c+1,r=>by
  simp only [kP,kH]
  cases h1:kI r with
  | none=>simp [hZ,h1,rdIts_none]
  | some x =>
   obtain ⟨k,r1⟩:=x
   simp only [hZ,h1]
   cases h2:kI r1 with
   | none=>simp [rdIts_none]
   | some y =>
    obtain ⟨v,r2⟩:=y
    simp only
    rw [rdItems_eq c r2]
    cases (kH c (some r2)).2<;>rfl
theorem rdKids_eq:∀ (c:Nat) (r:Bs),rdKids c r=(jX c (some r)).2.map λ r'=>((jX c (some r)).1,r')
 | 0,r=>rfl
 | c+1,r=>by
  simp only [rdKids,jX]
  by_cases h:4≤r.length
  ·simp only [rdWord,rdW,if_pos h,le4_eq]
   rw [rdKids_eq c (r.drop 4)]
   cases (jX c (some (r.drop 4))).2<;>rfl
  ·simp only [rdWord,rdW,if_neg h]
   simp [rdKds_none]
theorem rdKeys_eq:∀ (c:Nat) (r:Bs),rdKeys c r=(kG c (some r)).2.map λ r'=>((kG c (some r)).1,r')
 | 0,r=>rfl
 | c+1,r=>by
  simp only [rdKeys,kG]
  cases h1:kI r with
  | none=>simp [hZ,h1,rdKys_none]
  | some x =>
   obtain ⟨k,r1⟩:=x
   simp only [hZ,h1]
   rw [rdKeys_eq c r1]
   cases (kG c (some r1)).2<;>rfl
theorem readN_eq (b:Bs):gG b=(
  let x:=rdW 1 (some b)
  let y:=rdW 1 x.2
  if y.2=none∨8<y.1 then none
  else if x.1=0 then (kH y.1 y.2).2.bind (finN ⟨(kH y.1 y.2).1,[],[]⟩)
  else if x.1=1∧2≤y.1 then (kG (y.1-1) (jX y.1 y.2).2).2.bind (finN ⟨[],(jX y.1 y.2).1,(kG (y.1-1) (jX y.1 y.2).2).1⟩)
  else none):=by
 match b with
 | []=>simp [gG,rdW]
 | [k]=>simp [gG,rdW]
 | k::c::r =>
  have e1:rdW 1 (some (k::c::r))=(k,some (c::r)):=by simp [rdW,leW]
  have e2:rdW 1 (some (c::r))=(c,some r):=by simp [rdW,leW]
  simp only [e1,e2,gG]
  by_cases h8:8<c
  ·simp [h8]
  ·rw [if_neg h8,if_neg (show ¬ (some r=none∨8<c) by simp [h8])]
   by_cases h0:k=0
   ·rw [if_pos h0,if_pos h0,rdItems_eq]
    cases (kH c (some r)).2<;>rfl
   ·rw [if_neg h0,if_neg h0]
    by_cases h2:k=1∧2≤c
    ·rw [if_pos h2,if_pos h2,rdKids_eq]
     cases hk:(jX c (some r)).2 with
     | none=>simp [rdKys_none]
     | some r1 =>
      simp only [Option.map_some]
      rw [rdKeys_eq]
      cases (kG (c-1) (some r1)).2<;>rfl
    ·rw [if_neg h2,if_neg h2]
end Go.Proofs.YtfpadnmdafiddaaGreatDoor
