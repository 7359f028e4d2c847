import Derived.Test.YtoldjgmcoekchaaGreatDoorWi
import Derived.Test.YtoldjgmcoekchaaGreatDoorWj
set_option linter.all false
set_option maxHeartbeats 16000000
set_option maxRecDepth 100000
namespace Go.Proofs.YtoldjgmcoekchaaGreatDoor
open Go Go.RowKit Go.V Go.E
set_option maxRecDepth 20000
def rotN (x s:Nat):Nat:=Nat.lor (Nat.mod (Nat.shiftLeft x s) 18446744073709551616) (Nat.shiftRight x (Nat.sub 64 s))
theorem rotN_ok (x:BitVec 64) (s:Nat):(rotl x s).toNat=rotN x.toNat s:=by
 unfold rotl rotN
 rw [BitVec.toNat_or,BitVec.toNat_shiftLeft,BitVec.toNat_ushiftRight]
 rfl
def s0N (x:Nat):Nat:=Nat.xor (Nat.xor (rotN x 63) (rotN x 56)) (Nat.shiftRight x 7)
def s1N (x:Nat):Nat:=Nat.xor (Nat.xor (rotN x 45) (rotN x 3)) (Nat.shiftRight x 6)
def b0N (x:Nat):Nat:=Nat.xor (Nat.xor (rotN x 36) (rotN x 30)) (rotN x 25)
def b1N (x:Nat):Nat:=Nat.xor (Nat.xor (rotN x 50) (rotN x 46)) (rotN x 23)
def chN (e f g:Nat):Nat:=Nat.xor (Nat.land e f) (Nat.land (Nat.sub 18446744073709551615 e) g)
def mjN (a b c:Nat):Nat:=Nat.xor (Nat.xor (Nat.land a b) (Nat.land a c)) (Nat.land b c)
theorem s0N_ok (x:BitVec 64):(sg0 x).toNat=s0N x.toNat:=by
 rw [sg0,show rotA (-1)=63 from by decide,show rotA (-8)=56 from by decide,BitVec.toNat_xor,BitVec.toNat_xor,rotN_ok,rotN_ok,BitVec.toNat_ushiftRight];rfl
theorem s1N_ok (x:BitVec 64):(sg1 x).toNat=s1N x.toNat:=by
 rw [sg1,show rotA (-19)=45 from by decide,show rotA (-61)=3 from by decide,BitVec.toNat_xor,BitVec.toNat_xor,rotN_ok,rotN_ok,BitVec.toNat_ushiftRight];rfl
theorem b0N_ok (x:BitVec 64):(bs0 x).toNat=b0N x.toNat:=by
 rw [bs0,show rotA (-28)=36 from by decide,show rotA (-34)=30 from by decide,show rotA (-39)=25 from by decide,BitVec.toNat_xor,BitVec.toNat_xor,rotN_ok,rotN_ok,rotN_ok];rfl
theorem b1N_ok (x:BitVec 64):(bs1 x).toNat=b1N x.toNat:=by
 rw [bs1,show rotA (-14)=50 from by decide,show rotA (-18)=46 from by decide,show rotA (-41)=23 from by decide,BitVec.toNat_xor,BitVec.toNat_xor,rotN_ok,rotN_ok,rotN_ok];rfl
theorem chN_ok (e f g:BitVec 64):((e&&&f) ^^^ (~~~e&&&g)).toNat=chN e.toNat f.toNat g.toNat:=by
 rw [BitVec.toNat_xor,BitVec.toNat_and,BitVec.toNat_and,BitVec.toNat_not];rfl
theorem mjN_ok (a b c:BitVec 64):((a&&&b) ^^^ (a&&&c) ^^^ (b&&&c)).toNat=mjN a.toNat b.toNat c.toNat:=by
 rw [BitVec.toNat_xor,BitVec.toNat_xor,BitVec.toNat_and,BitVec.toNat_and,BitVec.toNat_and];rfl
def t1N (e f g h k w:Nat):Nat:=Nat.mod (Nat.add (Nat.add (Nat.add (Nat.add h (b1N e)) (chN e f g)) k) w) 18446744073709551616
def naN (a b c t1:Nat):Nat:=Nat.mod (Nat.add t1 (Nat.add (b0N a) (mjN a b c))) 18446744073709551616
def adN (a b:Nat):Nat:=Nat.mod (Nat.add a b) 18446744073709551616
def nwN (w0 w1 w9 w14:Nat):Nat:=Nat.mod (Nat.add (Nat.add (Nat.add w0 (s0N w1)) w9) (s1N w14)) 18446744073709551616
theorem adN_ok (a b:BitVec 64):(a+b).toNat=adN a.toNat b.toNat:=BitVec.toNat_add ..
theorem t1N_ok (s:St) (k w:BitVec 64):(tOne s k w).toNat=t1N s.e.toNat s.f.toNat s.g.toNat s.h.toNat k.toNat w.toNat:=by
 rw [tOne,BitVec.toNat_add,BitVec.toNat_add,BitVec.toNat_add,BitVec.toNat_add,b1N_ok,chN_ok]
 show _=((((s.h.toNat+b1N s.e.toNat)+chN s.e.toNat s.f.toNat s.g.toNat)+k.toNat)+w.toNat)%18446744073709551616
 simp only [Nat.mod_add_mod,show (2:Nat)^64=18446744073709551616 from rfl]
theorem naN_ok (s:St) (k w:BitVec 64):(tOne s k w+tTwo s).toNat=naN s.a.toNat s.b.toNat s.c.toNat (tOne s k w).toNat:=by
 rw [tTwo,BitVec.toNat_add,BitVec.toNat_add,b0N_ok,mjN_ok]
 show _=((tOne s k w).toNat+(b0N s.a.toNat+mjN s.a.toNat s.b.toNat s.c.toNat))%18446744073709551616
 simp only [Nat.add_mod_mod,show (2:Nat)^64=18446744073709551616 from rfl]
noncomputable def goN {R:Type} (kk:Nat→Nat→Nat→Nat→Nat→Nat→Nat→Nat→R) (l:List Nat):Nat→Nat→Nat→Nat→Nat→Nat→Nat→Nat→Nat→Nat→Nat→Nat→Nat→Nat→Nat→Nat→Nat→Nat→Nat→Nat→Nat→Nat→Nat→Nat→R :=
 List.rec (motive:=λ _=>Nat→Nat→Nat→Nat→Nat→Nat→Nat→Nat→Nat→Nat→Nat→Nat→Nat→Nat→Nat→Nat→Nat→Nat→Nat→Nat→Nat→Nat→Nat→Nat→R) (λ _ _ _ _ _ _ _ _ _ _ _ _ _ _ _ _ a b c d e f g h=>kk a b c d e f g h)
  (λ k _ ih=>λ w0 w1 w2 w3 w4 w5 w6 w7 w8 w9 w10 w11 w12 w13 w14 w15 a b c d e f g h=>nK (t1N e f g h k w0) λ t1=>nK (naN a b c t1) λ na=>nK (adN d t1) λ ne=>nK (nwN w0 w1 w9 w14) λ w16=>ih w1 w2 w3 w4 w5 w6 w7 w8 w9 w10 w11 w12 w13 w14 w15 w16 na a b c ne e f g) l
def uW (ws:List (BitVec 64)) (t:Nat):BitVec 64 :=
 if h:t<16 then ws.getD t 0#64 else uW ws (t-16)+sg0 (uW ws (t-15))+uW ws (t-7)+sg1 (uW ws (t-2))
termination_by t
theorem uW_low {ws:List (BitVec 64)} {t:Nat} (h:t<16):uW ws t=ws.getD t 0#64:=by rw [uW,dif_pos h]
theorem uW_next (ws:List (BitVec 64)) (t:Nat):uW ws (t+16)=uW ws t+sg0 (uW ws (t+1))+uW ws (t+9)+sg1 (uW ws (t+14)):=by
 rw [uW,dif_neg (by omega),show t+16-16=t by omega,show t+16-15=t+1 by omega,show t+16-7=t+9 by omega,show t+16-2=t+14 by omega]
theorem sched_u {ws:List (BitVec 64)} (hl:ws.length=80):∀ (n:Nat),n≤64→∀ t,t<n+16→(sched n ws).getD t 0#64=uW ws t:=by
 intro n
 induction n with
 | zero=>intro _ t ht;rw [uW_low (by omega)];rfl
 | succ n ih =>
  intro hn t ht
  have hlen:(sched n ws).length=80:=by rw [sched_len,hl]
  show ((sched n ws).set (n+16) (nextW (sched n ws) (n+16))).getD t 0#64=_
  rw [List.getD_eq_getElem?_getD]
  by_cases h:n+16=t
  ·subst h
   rw [List.getElem?_set_self (by omega),uW_next,nextW]
   simp only [Option.getD_some]
   rw [show n+16-16=n by omega,show n+16-15=n+1 by omega,show n+16-7=n+9 by omega,show n+16-2=n+14 by omega,ih (by omega) n (by omega),ih (by omega) (n+1) (by omega),ih (by omega) (n+9) (by omega),ih (by omega) (n+14) (by omega)]
  ·rw [List.getElem?_set_ne h,← List.getD_eq_getElem?_getD,ih (by omega) t (by omega)]
def fl (ws:List (BitVec 64)):List (BitVec 64)→Nat→St→St
 | [],_,s=>s
 | k::l,t,s=>fl ws l (t+1) (rnd s k (uW ws t))
theorem nwN_ok (ws:List (BitVec 64)) (t:Nat):(uW ws (t+16)).toNat=nwN (uW ws t).toNat (uW ws (t+1)).toNat (uW ws (t+9)).toNat (uW ws (t+14)).toNat:=by
 rw [uW_next,BitVec.toNat_add,BitVec.toNat_add,BitVec.toNat_add,s0N_ok,s1N_ok]
 show _=((((uW ws t).toNat+s0N (uW ws (t+1)).toNat)+(uW ws (t+9)).toNat)+s1N (uW ws (t+14)).toNat)%18446744073709551616
 simp only [Nat.mod_add_mod,show (2:Nat)^64=18446744073709551616 from rfl]
theorem goN_cons {R:Type} (kk:Nat→Nat→Nat→Nat→Nat→Nat→Nat→Nat→R) (k:Nat) (l:List Nat) (w0 w1 w2 w3 w4 w5 w6 w7 w8 w9 w10 w11 w12 w13 w14 w15 a b c d e f g h:Nat):goN kk (k::l) w0 w1 w2 w3 w4 w5 w6 w7 w8 w9 w10 w11 w12 w13 w14 w15 a b c d e f g h=nK (t1N e f g h k w0) λ t1=>nK (naN a b c t1) λ na=>nK (adN d t1) λ ne=>nK (nwN w0 w1 w9 w14) λ w16=>goN kk l w1 w2 w3 w4 w5 w6 w7 w8 w9 w10 w11 w12 w13 w14 w15 w16 na a b c ne e f g:=rfl
theorem goN_ok {R:Type} (kk:Nat→Nat→Nat→Nat→Nat→Nat→Nat→Nat→R) (ws:List (BitVec 64)):∀ (l:List (BitVec 64)) (t:Nat) (s:St),goN kk (l.map (·.toNat)) (uW ws (t)).toNat (uW ws (t+1)).toNat (uW ws (t+2)).toNat (uW ws (t+3)).toNat (uW ws (t+4)).toNat (uW ws (t+5)).toNat (uW ws (t+6)).toNat (uW ws (t+7)).toNat (uW ws (t+8)).toNat (uW ws (t+9)).toNat (uW ws (t+10)).toNat (uW ws (t+11)).toNat (uW ws (t+12)).toNat (uW ws (t+13)).toNat (uW ws (t+14)).toNat (uW ws (t+15)).toNat s.a.toNat s.b.toNat s.c.toNat s.d.toNat s.e.toNat s.f.toNat s.g.toNat s.h.toNat=kk (fl ws l t s).a.toNat (fl ws l t s).b.toNat (fl ws l t s).c.toNat (fl ws l t s).d.toNat (fl ws l t s).e.toNat (fl ws l t s).f.toNat (fl ws l t s).g.toNat (fl ws l t s).h.toNat
 | [],t,s=>rfl
 | k::l,t,s=>by
  have ih:=goN_ok kk ws l (t+1) (rnd s k (uW ws t))
  rw [List.map_cons,goN_cons,nK_eq,nK_eq,nK_eq,nK_eq,← t1N_ok,← naN_ok,← adN_ok,← nwN_ok]
  exact ih
theorem fl_rn {ws vs:List (BitVec 64)} (hv:∀ t,t<80→vs.getD t 0#64=uW ws t) (s:St):∀ (n t:Nat),t+n=80→fl ws (Kw.drop t) t (rnK Kw vs s t)=rnK Kw vs s 80
 | 0,t,h=>by
  obtain rfl:t=80:=by omega
  rfl
 | n+1,t,h=>by
  have hk:t<Kw.length:=by show t<80;omega
  rw [List.drop_eq_getElem_cons hk]
  have:=fl_rn hv s n (t+1) (by omega)
  rw [show rnK Kw vs s (t+1)=rnd (rnK Kw vs s t) (Kw.getD t 0#64) (vs.getD t 0#64) from rfl,hv t (by omega)] at this
  rw [← this]
  show fl ws (Kw.drop (t+1)) (t+1) (rnd (rnK Kw vs s t) Kw[t] (uW ws t))=_
  rw [List.getD_eq_getElem?_getD,List.getElem?_eq_getElem hk]
  rfl
def oN (a b:Nat):Nat:=Nat.lor (Nat.mod (Nat.shiftLeft a 8) 18446744073709551616) (Nat.mod b 18446744073709551616)
def byN (s i:Nat):Nat:=Nat.mod (Nat.div s (Nat.pow 256 i)) 256
def wdN (s j:Nat):Nat:=oN (oN (oN (oN (oN (oN (oN (oN 0 (byN s j)) (byN s (Nat.add j 1))) (byN s (Nat.add j 2))) (byN s (Nat.add j 3))) (byN s (Nat.add j 4))) (byN s (Nat.add j 5))) (byN s (Nat.add j 6))) (byN s (Nat.add j 7))
theorem oN_ok (x:BitVec 64) (b:Nat):((x<<<8)|||BitVec.ofNat 64 b).toNat=oN x.toNat b:=by
 rw [BitVec.toNat_or,BitVec.toNat_shiftLeft,BitVec.toNat_ofNat];rfl
def nbs (s:Nat):List Nat:=(List.range 128).map λ i=>byN s i
theorem nbs_len (s:Nat):(nbs s).length=128:=by simp [nbs]
theorem nbs_lt (s:Nat):∀ b∈nbs s,b<256:=by
 intro b hb
 obtain ⟨i,_,rfl⟩:=List.mem_map.1 hb
 exact Nat.mod_lt _ (by decide)
theorem nbs_cut (s:Nat) {j:Nat} (h:j<16):(((nbs s).take 128).drop (8*j)).take 8=[byN s (8*j),byN s (8*j+1),byN s (8*j+2),byN s (8*j+3),byN s (8*j+4),byN s (8*j+5),byN s (8*j+6),byN s (8*j+7)]:=by
 rw [List.take_of_length_le (l:=nbs s) (by rw [nbs_len];omega)]
 apply List.ext_getElem?
 intro i
 rw [List.getElem?_take]
 rcases i with _|_|_|_|_|_|_|_|i<;>simp [nbs,List.getElem?_drop]
 all_goals first|omega|exact ⟨_,List.getElem?_range (by omega),rfl⟩
theorem wdN_ok (s:Nat) {j:Nat} (h:j<16):((part (nbs s) 128).getD j 0#64).toNat=wdN s (8*j):=by
 rw [part_at _ _ (by omega),nbs_cut s h]
 simp only [be,List.foldl_cons,List.foldl_nil,oN_ok]
 rfl
def KN:List Nat:=[4794697086780616226,8158064640168781261,13096744586834688815,16840607885511220156,4131703408338449720,6480981068601479193,10538285296894168987,12329834152419229976,15566598209576043074,1334009975649890238,2608012711638119052,6128411473006802146,8268148722764581231,9286055187155687089,11230858885718282805,13951009754708518548,16472876342353939154,17275323862435702243,1135362057144423861,2597628984639134821,3308224258029322869,5365058923640841347,6679025012923562964,8573033837759648693,10970295158949994411,12119686244451234320,12683024718118986047,13788192230050041572,14330467153632333762,15395433587784984357,489312712824947311,1452737877330783856,2861767655752347644,3322285676063803686,5560940570517711597,5996557281743188959,7280758554555802590,8532644243296465576,9350256976987008742,10552545826968843579,11727347734174303076,12113106623233404929,14000437183269869457,14369950271660146224,15101387698204529176,15463397548674623760,17586052441742319658,1182934255886127544,1847814050463011016,2177327727835720531,2830643537854262169,3796741975233480872,4115178125766777443,5681478168544905931,6601373596472566643,7507060721942968483,8399075790359081724,8693463985226723168,9568029438360202098,10144078919501101548,10430055236837252648,11840083180663258601,13761210420658862357,14299343276471374635,14566680578165727644,15097957966210449927,16922976911328602910,17689382322260857208,500013540394364858,748580250866718886,1242879168328830382,1977374033974150939,2944078676154940804,3659926193048069267,4368137639120453308,4836135668995329356,5532061633213252278,6448918945643986474,6902733635092675308,7801388544844847127]
theorem KN_ok:KN=Kw.map (·.toNat):=by kernel_rfl
noncomputable def pieceN {R:Type} (a b c d e f g h s:Nat) (kk:Nat→Nat→Nat→Nat→Nat→Nat→Nat→Nat→R):R :=
 nK (wdN s 0) λ w0=>nK (wdN s 8) λ w1=>nK (wdN s 16) λ w2=>nK (wdN s 24) λ w3=>nK (wdN s 32) λ w4=>nK (wdN s 40) λ w5=>nK (wdN s 48) λ w6=>nK (wdN s 56) λ w7=>nK (wdN s 64) λ w8=>nK (wdN s 72) λ w9=>nK (wdN s 80) λ w10=>nK (wdN s 88) λ w11=>nK (wdN s 96) λ w12=>nK (wdN s 104) λ w13=>nK (wdN s 112) λ w14=>nK (wdN s 120) λ w15=>goN (λ a' b' c' d' e' f' g' h'=>nK (adN a a') λ a''=>nK (adN b b') λ b''=>nK (adN c c') λ c''=>nK (adN d d') λ d''=>nK (adN e e') λ e''=>nK (adN f f') λ f''=>nK (adN g g') λ g''=>nK (adN h h') λ h''=>kk a'' b'' c'' d'' e'' f'' g'' h'') KN w0 w1 w2 w3 w4 w5 w6 w7 w8 w9 w10 w11 w12 w13 w14 w15 a b c d e f g h
theorem pieceN_ok (st:St) (s:Nat):∃ r:St,(pieceB st (nbs s))=r.l∧∀ (R:Type) (kk:Nat→Nat→Nat→Nat→Nat→Nat→Nat→Nat→R),pieceN st.a.toNat st.b.toNat st.c.toNat st.d.toNat st.e.toNat st.f.toNat st.g.toNat st.h.toNat s kk=kk r.a.toNat r.b.toNat r.c.toNat r.d.toNat r.e.toNat r.f.toNat r.g.toNat r.h.toNat:=by
 obtain ⟨ws,hws⟩:∃ ws,ws=part (nbs s) 128:=⟨_,rfl⟩
 have hl:ws.length=80:=by rw [hws,part_len]
 have hu:∀ j,j<16→(uW ws j).toNat=wdN s (8*j):=λ j hj=>by rw [uW_low hj,hws,wdN_ok s hj]
 have hrn:fl ws Kw 0 st=rnK Kw (sched 64 ws) st 80:=fl_rn (λ t ht=>sched_u hl 64 (by omega) t ht) st 80 0 (by omega)
 obtain ⟨e,he⟩:∃ e,e=fl ws Kw 0 st:=⟨_,rfl⟩
 refine ⟨⟨st.a+e.a,st.b+e.b,st.c+e.c,st.d+e.d,st.e+e.e,st.f+e.f,st.g+e.g,st.h+e.h⟩,?_,?_⟩
 ·rw [pieceB,rn,← hws,← hrn,← he]
  rfl
 ·intro R kk
  unfold pieceN
  simp only [nK_eq]
  have h:=goN_ok (λ a' b' c' d' e' f' g' h'=>nK (adN st.a.toNat a') λ a''=>nK (adN st.b.toNat b') λ b''=>nK (adN st.c.toNat c') λ c''=>nK (adN st.d.toNat d') λ d''=>nK (adN st.e.toNat e') λ e''=>nK (adN st.f.toNat f') λ f''=>nK (adN st.g.toNat g') λ g''=>nK (adN st.h.toNat h') λ h''=>kk a'' b'' c'' d'' e'' f'' g'' h'') ws Kw 0 st
  simp only [nK_eq,Nat.zero_add] at h
  rw [hu 0 (by omega),hu 1 (by omega),hu 2 (by omega),hu 3 (by omega),hu 4 (by omega),hu 5 (by omega),hu 6 (by omega),hu 7 (by omega),hu 8 (by omega),hu 9 (by omega),hu 10 (by omega),hu 11 (by omega),hu 12 (by omega),hu 13 (by omega),hu 14 (by omega),hu 15 (by omega)] at h
  rw [KN_ok]
  refine Eq.trans h ?_
  rw [← he]
  simp only [adN_ok]
end Go.Proofs.YtoldjgmcoekchaaGreatDoor
namespace Go.Proofs.YtoldjgmcoekchaaGreatDoor
open Go Go.RowKit Go.V
set_option maxRecDepth 20000
theorem rrot_c (x:BitVec 64) (n:Nat) (hn:n≤64) (w:World) :
  Calls Tryz.prog 184 #[wB x,.int .i64 (n:Int)] w (Ret λ v w'=>v=wB (rotl x (64-n))∧w'=w):=by
 refine V.calls (args:=[_,_]) Tryz.func184 rfl Tryz.ntmps184 rfl rfl ?_
 unfold rotl
 have h1:IntKind.u64.wrap (n:Int)=(n:Int):=wrap_in (M:=18446744073709551616) rfl (by omega)
 have h2:IntKind.u64.wrap ((64-n:Nat):Int)=((64-n:Nat):Int):=wrap_in (M:=18446744073709551616) rfl (by omega)
 have h3:64-(64-n)=n:=by omega
 rw [h3]
 repeat (first|(refine TL.isConv ?_;first|refine TL.convZ6 rfl h1 rfl ?_|refine TL.convZ6 rfl h2 rfl ?_)|(refine TL.isShl ?_;refine TL.shlB6 rfl rfl (by omega) rfl ?_)|(refine TL.isShr ?_;refine TL.shrB6 rfl rfl (by omega) rfl ?_)|refine TL.orB6 rfl rfl rfl ?_|(refine TL.isMove ?_;refine TL.pure rfl rfl ?_)|(refine TL.isAsg ?_;refine TL.pure rfl rfl ?_)|(refine TL.isSub ?_;refine TL.subN rfl rfl (by omega) (by omega) rfl ?_)|refine TL.nil ?_|refine thenQ_normal ?_|refine T.seq ?_|refine T.region ?_|refine T.ret ?_)
 exact ret1 rfl ⟨_,rfl,by rw [BitVec.or_comm],rfl⟩
theorem K_r (w:World):Calls Tryz.prog 183 #[] w (Ret λ v w'=>v=.agg (Kw.map wB).toArray∧Grow w w'):=by
 refine V.calls (args:=[]) Tryz.func183 rfl Tryz.ntmps183 rfl rfl ?_
 refine T.seq ?_
 refine T.region ?_
 refine TL.alloc rfl rfl ?_
 intro bk w1 hg1 hb1 hsz hsz'
 refine TL.nil ?_
 refine thenQ_normal ?_
 refine T.seq ?_
 refine T.region ?_
 refine TL.buildArr (cs:=Kw.map wB) rfl (by kernel_rfl) rfl ?_
 (refine TL.storeWh rfl rfl hb1 rfl rfl rfl ?_;intro w2 hu2 hb2 hs2)
 refine TL.nil ?_
 refine thenQ_normal ?_
 refine T.ret ?_
 exact retC rfl (load_whole hb2 rfl) ⟨_,rfl,rfl,grow_upd hu2 (by omega) hg1⟩
def wAt (bs:List Nat) (t:Nat):List (BitVec 64):=sched (t-16) (part bs (min (8*t) 128))
theorem wAt_len (bs:List Nat) (t:Nat):(wAt bs t).length=80:=by rw [wAt,sched_len,part_len]
theorem wAt_low (bs:List Nat) {t:Nat} (h:t≤16):wAt bs t=part bs (8*t):=by
 rw [wAt,show t-16=0 by omega,Nat.min_eq_left (by omega)];rfl
theorem wAt_high (bs:List Nat) {t:Nat} (h:16≤t):wAt bs (t+1)=(wAt bs t).set t (nextW (wAt bs t) t):=by
 rw [wAt,wAt,show t+1-16=(t-16)+1 by omega,Nat.min_eq_right (by omega),Nat.min_eq_right (by omega)]
 show (sched (t-16) _).set (t-16+16) (nextW _ (t-16+16))=_
 rw [show t-16+16=t by omega]
theorem wAt_end (bs:List Nat):wAt bs 80=sched 64 (part bs 128):=rfl
attribute [irreducible] wAt
theorem rA1:rotA (-1)=64-1:=by decide
theorem rA8:rotA (-8)=64-8:=by decide
theorem rA19:rotA (-19)=64-19:=by decide
theorem rA61:rotA (-61)=64-61:=by decide
theorem rA14:rotA (-14)=64-14:=by decide
theorem rA18:rotA (-18)=64-18:=by decide
theorem rA41:rotA (-41)=64-41:=by decide
theorem rA28:rotA (-28)=64-28:=by decide
theorem rA34:rotA (-34)=64-34:=by decide
theorem rA39:rotA (-39)=64-39:=by decide
theorem addL_comm (s t:St):addL s.l t.l 8=addL t.l s.l 8:=by
 obtain ⟨a,b,c,d,e,f,g,h⟩:=s
 obtain ⟨a',b',c',d',e',f',g',h'⟩:=t
 simp [addL,St.l,BitVec.add_comm]
theorem rpiece_c (F:Nat→Prop) (s:St) (bs:List Nat) (hl:bs.length=128) (hb:∀ b∈bs,b<256) (a:Option Addr) (c:Nat) (w:World) (hs:Sl F w 1 a 128 c (pbs bs)):Calls Tryz.prog 120 #[.agg (s.l.map wB).toArray,.slice a 128 c] w
  (Ret λ v w'=>v=.agg ((pieceB s bs).map wB).toArray∧Grow w w'):=by
 refine V.calls (args:=[_,_]) Tryz.func120 rfl Tryz.ntmps120 rfl rfl ?_
 replace hs:=hs.tight
 obtain ⟨ks,hks⟩:∃ ks,ks=Kw:=⟨_,rfl⟩
 have hkl:ks.length=80:=by rw [hks];rfl
 have hkc:∀ w,Calls Tryz.prog 183 #[] w (Ret λ v w'=>v=.agg (ks.map wB).toArray∧Grow w w'):=by rw [hks];exact K_r
 have hpb:pieceB s bs=addL (rnK ks (wAt bs 80) s 80).l s.l 8:=by rw [wAt_end,hks];exact addL_comm _ _
 have hko:(ks.map wB).all Value.oneCell'=true:=by simp [Value.oneCell']
 have hw0:part bs 0=List.replicate 80 0#64:=part_zero bs
 repeat (first|(refine TL.isFn 183 ?_;refine TL.call rfl (hkc _) rfl ?_;rintro _ _ ⟨rfl,hgc⟩)|(refine TL.isStore ?_;refine TL.storeWh rfl rfl yB (by rw [List.length_map,hkl];rfl) rfl hko ?_;intro w' hu hbk hsz)|(refine TL.isAsg ?_;refine TL.pure rfl rfl ?_)|refine TL.nil ?_|refine thenQ_normal ?_|refine T.seq ?_|refine T.region ?_|refine T.block ?_|(refine TL.isBox ?_;(refine TL.boxA rfl rfl ?_;intro bk w' hg hbk hsz hsz'))|(refine TL.isAlloc ?_;(refine TL.alloc rfl rfl ?_;intro bk w' hg hbk hsz hsz')))
 rename_i b2 w2 hg2 hb2 hz2 hz2' b4 w4 hg4 hb4 hz4 hz4' w5 b5 w6 hg6 hb5 hz5 hz5' w7 hb7 hz7
 have hsz5:=hgc.2
 have h2:Blk w' b2 139 (s.l.map wB):=by exact yB
 have h4:Blk w' b4 139 (List.replicate 8 (wB 0#64)):=(((hb4.grow hgc).grow hg6).upd hu (by omega)).grow hg
 have h5:Blk w' b5 293 (ks.map wB):=by exact yB
 have h6:Blk w' bk 293 ((wAt bs 0).map wB):=by rw [wAt_low bs (by omega),Nat.mul_zero,hw0];exact hbk
 have hlt:w.heap.size≤b2∧w.heap.size≤b4∧b2≠b4∧b2<b5∧b4<b5∧b5<bk∧bk<w'.heap.size:=by omega
 have hG:Grow w w':=by exact yG
 replace hs:=hs.grow hG
 clear hg2 hb2 hz2 hz2' hg4 hb4 hz4 hz4' hgc hg6 hb5 hz5 hz5' hu hb7 hz7 hg hbk hsz hsz' hsz5 hks hkc hko hw0
 refine T.loop (S:=Nat) (λ t=>[(7,.int .i64 (t:Int)),(6,.pointer (some ⟨bk,0,none⟩)),(5,.pointer (some ⟨b5,0,none⟩)),(4,.pointer (some ⟨b4,0,none⟩)),(2,.pointer (some ⟨b2,0,none⟩)),(1,.slice a 128 c)])
  (λ t w7=>t≤80∧Blk w7 bk 293 ((wAt bs t).map wB)∧Blk w7 b2 139 (s.l.map wB)∧Blk w7 b4 139 (List.replicate 8 (wB 0#64))∧Blk w7 b5 293 (ks.map wB)∧Sl (λ k=>F k∧k<w.heap.size) w7 1 a 128 c (pbs bs)∧Grow w w7) (λ t=>80-t) 0 ⟨rfl,rfl,rfl,rfl,rfl,rfl,trivial⟩ ⟨Nat.zero_le _,h6,h2,h4,h5,hs,hG⟩ ?_
 clear h2 h4 h5 h6 hs hG
 rintro t w7 ⟨ht,h6,h2,h4,h5,hs,hG⟩
 by_cases htk:t<80
 ·have htc:(decide ((t:Int)<80))=true:=decide_eq_true (by omega)
  have hwl:=wAt_len bs t
  by_cases ht16:t<16
  ·have htd:(decide ((t:Int)<16))=true:=decide_eq_true (by omega)
   repeat (first|(refine TL.isMove ?_;refine TL.pure rfl rfl ?_)|(refine TL.isAsg ?_;refine TL.pure rfl rfl ?_)|refine TL.nil ?_|refine thenQ_normal ?_|refine T.seq ?_|refine T.region ?_|refine T.block ?_|(refine TL.isBin ?_;refine TL.pureT rfl yD rfl ?_)|refine T.cond_true rfl ?_|refine T.skip ?_)
   rw [wAt_low bs (show t≤16 by omega)] at h6 hwl
   refine T.loop (S:=Nat) (λ i=>[(8,.int .i64 (i:Int)),(7,.int .i64 (t:Int)),(6,.pointer (some ⟨bk,0,none⟩)),(5,.pointer (some ⟨b5,0,none⟩)),(4,.pointer (some ⟨b4,0,none⟩)),(2,.pointer (some ⟨b2,0,none⟩)),(1,.slice a 128 c)])
    (λ i w8=>i≤8∧Blk w8 bk 293 ((part bs (8*t+i)).map wB)∧Blk w8 b2 139 (s.l.map wB)∧Blk w8 b4 139 (List.replicate 8 (wB 0#64))∧Blk w8 b5 293 (ks.map wB)∧Sl (λ k=>F k∧k<w.heap.size) w8 1 a 128 c (pbs bs)∧Grow w w8) (λ i=>8-i) 0 ⟨rfl,rfl,rfl,rfl,rfl,rfl,rfl,trivial⟩ ⟨Nat.zero_le _,h6,h2,h4,h5,hs,hG⟩ ?_
   clear h2 h4 h5 h6 hs hG hwl
   rintro i w8 ⟨hi,h6,h2,h4,h5,hs,hG⟩
   have hpl:=part_len bs (8*t+i)
   by_cases hi8:i<8
   ·have hic:(decide ((i:Int)<8))=true:=decide_eq_true (by omega)
    have hps:=part_step (bs:=bs) (i:=8*t+i) (by omega) hl
    rw [show (8*t+i) / 8=t by omega] at hps
    have hbi:bs.getD (8*t+i) 0<256:=by rw [List.getD_eq_getElem?_getD,List.getElem?_eq_getElem (by omega)];exact hb _ (List.getElem_mem _)
    repeat (first|(refine TL.isMove ?_;refine TL.pure rfl rfl ?_)|refine TL.nil ?_|refine thenQ_normal ?_|refine T.seq ?_|refine T.region ?_|refine T.block ?_|(refine TL.isBin ?_;refine TL.pureT rfl yD rfl ?_)|refine T.cond_true rfl ?_|refine T.skip ?_)
    apply T.any 14 [is _,is _,is _,is _,is _,is _,is _,is _,is _,is _,is _,is _,is _,is _];(· kernel_rfl);(· ((repeat' (first|exact allDo_end|refine allDo_cons ?_ ?_));(iterate 14 (· ((refine does_mk0 rfl rfl rfl ?_);( intro wq _ _ hgq;(repeat (refine need_cons rfl rfl ?_;intro vq hvq;try (obtain rfl:=hvq)));(refine need_nil ?_));(repeat (first|(refine TL.isLoad ?_;first|refine TL.load1 rfl (Blk.cell (b:=bk) yB (wcell (by omega))) rfl ?_|refine TL.load1 rfl ((hs.grow hgq).row.cell (pbs_at (by omega))) rfl ?_)|refine TL.convW8 rfl hbi rfl ?_|refine TL.orB6 rfl rfl rfl ?_|(refine TL.isShl ?_;refine TL.shlB6 rfl rfl (by decide) rfl ?_)|(refine TL.isMove ?_;refine TL.pure rfl rfl ?_)|(refine TL.isIndex ?_;refine TL.indexA1 rfl rfl (by omega) rfl ?_)|(refine TL.isAdd ?_;refine TL.addN rfl rfl (by omega) rfl ?_)|(refine TL.isMul ?_;refine TL.mulN rfl rfl (by omega) rfl ?_)|refine TL.nil ?_|(refine TL.isIndex ?_;refine TL.indexAddr (j:=8*t+i) rfl rfl rfl (by omega) (Nat.mul_one _) ⟨_,_,hs.grow hgq⟩ rfl ?_)));exact one_end rfl yG rfl)))));(rintro _ _ _ hgr _ _;(repeat (refine need_cons rfl rfl ?_;intro vq hvq;try (obtain rfl:=hvq)));(refine need_nil ?_))
    replace h2:=h2.grow hgr
    replace h4:=h4.grow hgr
    replace h5:=h5.grow hgr
    replace h6:=h6.grow hgr
    replace hs:=hs.grow hgr
    replace hG:=hG.trans hgr
    clear hgr
    repeat (first|(refine TL.isStore ?_;refine TL.store1 rfl rfl h6 rfl (by rw [List.length_map,hpl];exact Nat.ble_eq_true_of_le (by omega)) (map_set _ _ _) ?_;intro w9 hu hb9 hz9)|(refine TL.isMove ?_;refine TL.pure rfl rfl ?_)|(refine TL.isAsg ?_;refine TL.pure rfl rfl ?_)|(refine TL.isIndex ?_;refine TL.indexA1 rfl rfl (by omega) rfl ?_)|(refine TL.isAdd ?_;refine TL.addN rfl rfl (by omega) rfl ?_)|refine TL.nil ?_|refine thenQ_normal ?_|refine T.region ?_|refine blockQ_normal ?_)
    rw [hps] at hb9
    replace h2:=h2.upd hu (by omega)
    replace h4:=h4.upd hu (by omega)
    replace h5:=h5.upd hu (by omega)
    replace hs:=hs.upd hu (by intro k hk;omega)
    replace hG:=grow_upd hu (by omega) hG
    clear hu h6 hps
    exact loopQ_normal (i+1) ⟨rfl,rfl,rfl,rfl,rfl,rfl,rfl,trivial⟩ ⟨hi8,hb9,h2,h4,h5,hs,hG⟩ (by omega)
   ·obtain rfl:i=8:=by omega
    have hic:(decide (((8:Nat):Int)<8))=false:=by decide
    repeat (first|(refine TL.isMove ?_;refine TL.pure rfl rfl ?_)|(refine TL.isAsg ?_;refine TL.pure rfl rfl ?_)|(refine TL.isAdd ?_;refine TL.addN rfl rfl (by omega) rfl ?_)|refine TL.nil ?_|refine thenQ_normal ?_|refine T.seq ?_|refine T.region ?_|(refine TL.isBin ?_;refine TL.pureF rfl yD rfl ?_)|refine T.cond_false rfl ?_|refine T.exit ?_|refine thenQ_exit ?_|refine blockQ_hit ?_|refine loopQ_exit ?_)
    exact loopQ_normal (t+1) ⟨rfl,rfl,rfl,rfl,rfl,rfl,trivial⟩ ⟨htk,by rw [wAt_low bs (show t+1≤16 by omega),show 8*(t+1)=8*t+8 by omega];exact h6,h2,h4,h5,hs,hG⟩ (by omega)
  ·have htd:(decide ((t:Int)<16))=false:=decide_eq_false (by omega)
   repeat (first|(refine TL.isMove ?_;refine TL.pure rfl rfl ?_)|refine TL.nil ?_|refine thenQ_normal ?_|refine T.seq ?_|refine T.region ?_|refine T.block ?_|(refine TL.isBin ?_;first|refine TL.pureT rfl yD rfl ?_|refine TL.pureF rfl yD rfl ?_)|refine T.cond_true rfl ?_|refine T.cond_false rfl ?_|refine T.skip ?_)
   apply T.any 10 [is _,is _,is _,is _,is _,is _,is _,is _,is _,is _];(· kernel_rfl);(· ((repeat' (first|exact allDo_end|refine allDo_cons ?_ ?_));(iterate 10 (· ((refine does_mk0 rfl rfl rfl ?_);( intro wq _ _ hgq;(repeat (refine need_cons rfl rfl ?_;intro vq hvq;try (obtain rfl:=hvq)));(refine need_nil ?_));(repeat (first|(refine TL.isMove ?_;refine TL.pure rfl rfl ?_)|(refine TL.isAsg ?_;refine TL.pure rfl rfl ?_)|(refine TL.isIndex ?_;refine TL.indexA1 rfl rfl (by omega) rfl ?_)|(refine TL.isSub ?_;refine TL.subN rfl rfl (by omega) (by omega) rfl ?_)|refine TL.nil ?_|(refine TL.isLoad ?_;refine TL.load1 rfl (Blk.cell (b:=bk) yB (wcell (by omega))) rfl ?_)));exact one_end rfl yG rfl)))));(rintro _ _ _ hgr _ _;(repeat (refine need_cons rfl rfl ?_;intro vq hvq;try (obtain rfl:=hvq)));(refine need_nil ?_))
   replace h2:=h2.grow hgr
   replace h4:=h4.grow hgr
   replace h5:=h5.grow hgr
   replace h6:=h6.grow hgr
   replace hs:=hs.grow hgr
   replace hG:=hG.trans hgr
   clear hgr
   repeat (first|refine TL.nil ?_|refine thenQ_normal ?_)
   apply T.any 28 [is _,is _,is _,is _,is _,is _,is _,is _,is _,is _,is _,is _,is _,is _,is _,is _,is _,is _,is _,is _,is _,is _,is _,is _,is _,is _,is _,is _];(· kernel_rfl);(· ((repeat' (first|exact allDo_end|refine allDo_cons ?_ ?_));(iterate 28 (· ((refine does_mk0 rfl rfl rfl ?_);( intro wq _ _ hgq;(repeat (refine need_cons rfl rfl ?_;intro vq hvq;try (obtain rfl:=hvq)));(refine need_nil ?_));(repeat (first|(refine TL.isLoad ?_;refine TL.load1 rfl (Blk.cell (b:=bk) yB (wcell (by omega))) rfl ?_)|refine TL.xorB6 rfl rfl rfl ?_|refine TL.addB6 rfl rfl rfl ?_|(refine TL.isShr ?_;refine TL.shrB6 rfl rfl (by decide) rfl ?_)|(refine TL.isMove ?_;refine TL.pure rfl rfl ?_)|(refine TL.isIndex ?_;refine TL.indexA1 rfl rfl (by omega) rfl ?_)|(refine TL.isSub ?_;refine TL.subN rfl rfl (by omega) (by omega) rfl ?_)|refine TL.nil ?_|(refine TL.isFn 184 ?_;refine TL.call rfl (rrot_c _ _ (by decide) _) rfl ?_;rintro _ _ ⟨rfl,rfl⟩)));exact one_end rfl yG rfl)))));(rintro _ _ _ hgr _ _;(repeat (refine need_cons rfl rfl ?_;intro vq hvq;try (obtain rfl:=hvq)));(refine need_nil ?_))
   replace h2:=h2.grow hgr
   replace h4:=h4.grow hgr
   replace h5:=h5.grow hgr
   replace h6:=h6.grow hgr
   replace hs:=hs.grow hgr
   replace hG:=hG.trans hgr
   clear hgr
   repeat (first|(refine TL.isStore ?_;refine TL.store1 rfl rfl h6 rfl (by rw [List.length_map,hwl];exact Nat.ble_eq_true_of_le (by omega)) (map_set _ _ _) ?_;intro w9 hu hb9 hz9)|(refine TL.isMove ?_;refine TL.pure rfl rfl ?_)|(refine TL.isAsg ?_;refine TL.pure rfl rfl ?_)|(refine TL.isIndex ?_;refine TL.indexA1 rfl rfl (by omega) rfl ?_)|(refine TL.isAdd ?_;refine TL.addN rfl rfl (by omega) rfl ?_)|refine TL.nil ?_|refine thenQ_normal ?_|refine T.region ?_|refine blockQ_normal ?_)
   replace h2:=h2.upd hu (by omega)
   replace h4:=h4.upd hu (by omega)
   replace h5:=h5.upd hu (by omega)
   replace hs:=hs.upd hu (by intro k hk;omega)
   replace hG:=grow_upd hu (by omega) hG
   clear hu h6
   refine loopQ_normal (t+1) ⟨rfl,rfl,rfl,rfl,rfl,rfl,trivial⟩ ⟨htk,?_,h2,h4,h5,hs,hG⟩ (by omega)
   rw [wAt_high bs (by omega)]
   simp only [nextW,sg0,sg1,rA1,rA8,rA19,rA61]
   exact hb9
 ·obtain rfl:t=80:=by omega
  have htc:(decide (((80:Nat):Int)<80))=false:=by decide
  obtain ⟨ws,hws⟩:∃ ws,ws=wAt bs 80:=⟨_,rfl⟩
  rw [← hws] at h6 hpb
  have hwl:ws.length=80:=by rw [hws,wAt_len]
  clear hws
  repeat (first|(refine TL.isMove ?_;refine TL.pure rfl rfl ?_)|(refine TL.isAsg ?_;refine TL.pure rfl rfl ?_)|(refine TL.isLoad ?_;refine TL.loadW rfl yB (by exact rfl) rfl ?_)|refine TL.nil ?_|refine thenQ_normal ?_|refine T.seq ?_|refine T.region ?_|refine T.block ?_|(refine TL.isBin ?_;refine TL.pureF rfl yD rfl ?_)|(refine TL.isStore ?_;(refine TL.storeWh rfl rfl yB (by exact rfl) (by exact rfl) (by exact rfl) ?_;intro w' hu hbk hsz))|(refine TL.isAlloc ?_;(refine TL.alloc rfl rfl ?_;intro bk w' hg hbk hsz hsz'))|refine T.cond_false rfl ?_|refine T.exit ?_|refine thenQ_exit ?_|refine blockQ_hit ?_|refine loopQ_exit ?_)
  rename_i b6 w0 w11 hb11 hz11
  have hlt2:w.heap.size≤bk∧b2<bk∧b4<bk∧b5<bk∧b6<bk:=by have:=hG.2;have:=h2.lt;have:=h4.lt;have:=h5.lt;have:=h6.lt;omega
  replace h2:=(h2.grow hg).upd hu (by have:=h2.lt;omega)
  replace h4:=(h4.grow hg).upd hu (by have:=h4.lt;omega)
  replace h5:=(h5.grow hg).upd hu (by have:=h5.lt;omega)
  replace h6:=(h6.grow hg).upd hu (by have:=h6.lt;omega)
  replace hG:=grow_upd hu (by omega) (hG.trans hg)
  clear hg hu hb11 hz11 hsz' hsz hs
  refine T.loop (S:=Nat×St) (λ q=>[(12,.int .i64 (q.1:Int)),(11,.pointer (some ⟨bk,0,none⟩)),(6,.pointer (some ⟨b6,0,none⟩)),(5,.pointer (some ⟨b5,0,none⟩)),(4,.pointer (some ⟨b4,0,none⟩)),(2,.pointer (some ⟨b2,0,none⟩))])
   (λ q w7=>q.1≤80∧q.2=rnK ks ws s q.1∧Blk w7 bk 139 (q.2.l.map wB)∧Blk w7 b6 293 (ws.map wB)∧Blk w7 b5 293 (ks.map wB)∧Blk w7 b2 139 (s.l.map wB)∧Blk w7 b4 139 (List.replicate 8 (wB 0#64))∧Grow w w7) (λ q=>80-q.1) (0,s) ⟨rfl,rfl,rfl,rfl,rfl,rfl,trivial⟩ ⟨Nat.zero_le _,rfl,hbk,h6,h5,h2,h4,hG⟩ ?_
  clear h2 h4 h5 h6 hG hbk ht htk htc
  rintro ⟨t,s'⟩ w7 ⟨ht,hs',hbk,h6,h5,h2,h4,hG⟩
  simp only at ht hs' hbk
  by_cases htk:t<80
  ·have htc:(decide ((t:Int)<80))=true:=decide_eq_true (by omega)
   have hcs:s'.l.map wB=[wB s'.a,wB s'.b,wB s'.c,wB s'.d,wB s'.e,wB s'.f,wB s'.g,wB s'.h]:=rfl
   rw [hcs] at hbk
   repeat (first|(refine TL.isMove ?_;refine TL.pure rfl rfl ?_)|refine TL.nil ?_|refine thenQ_normal ?_|refine T.seq ?_|refine T.region ?_|refine T.block ?_|(refine TL.isBin ?_;refine TL.pureT rfl yD rfl ?_)|refine T.cond_true rfl ?_|refine T.skip ?_)
   apply T.any 6 [is _,is _,is _,is _,is _,is _];(· kernel_rfl);(· ((repeat' (first|exact allDo_end|refine allDo_cons ?_ ?_));(iterate 6 (· ((refine does_mk0 rfl rfl rfl ?_);( intro wq _ _ hgq;(repeat (refine need_cons rfl rfl ?_;intro vq hvq;try (obtain rfl:=hvq)));(refine need_nil ?_));(repeat (first|(refine TL.isAsg ?_;refine TL.pure rfl rfl ?_)|refine TL.load1 rfl yM rfl ?_|(refine TL.isIndex ?_;refine TL.indexA1 rfl rfl (by omega) rfl ?_)|refine TL.nil ?_));exact one_end rfl yG rfl)))));(rintro _ _ _ hgr _ _;(repeat (refine need_cons rfl rfl ?_;intro vq hvq;try (obtain rfl:=hvq)));(refine need_nil ?_))
   replace h2:=h2.grow hgr
   replace h4:=h4.grow hgr
   replace h5:=h5.grow hgr
   replace h6:=h6.grow hgr
   replace hbk:=hbk.grow hgr
   replace hG:=hG.trans hgr
   clear hgr
   repeat (first|refine TL.nil ?_|refine thenQ_normal ?_|refine T.seq ?_)
   apply T.any 30 [is _,is _,is _,is _,is _,is _,is _,is _,is _,is _,is _,is _,is _,is _,is _,is _,is _,is _,is _,is _,is _,is _,is _,is _,is _,is _,is _,is _,is _,is _];(· kernel_rfl);(· ((repeat' (first|exact allDo_end|refine allDo_cons ?_ ?_));(iterate 30 (· ((refine does_mk0 rfl rfl rfl ?_);( intro wq _ _ hgq;(repeat (refine need_cons rfl rfl ?_;intro vq hvq;try (obtain rfl:=hvq)));(refine need_nil ?_));(repeat (first|(refine TL.isLoad ?_;first|refine TL.load1 rfl (Blk.cell (b:=bk) yB rfl) rfl ?_|refine TL.load1 rfl (Blk.cell (b:=b6) yB (wcell (by omega))) rfl ?_|refine TL.load1 rfl (Blk.cell (b:=b5) yB (wcell (by omega))) rfl ?_)|refine TL.xorB6 rfl rfl rfl ?_|refine TL.addB6 rfl rfl rfl ?_|refine TL.andB6 rfl rfl rfl ?_|refine TL.notB6 rfl rfl ?_|(refine TL.isMove ?_;refine TL.pure rfl rfl ?_)|(refine TL.isIndex ?_;refine TL.indexA1 rfl rfl (by omega) rfl ?_)|refine TL.nil ?_|(refine TL.isFn 184 ?_;refine TL.call rfl (rrot_c _ _ (by decide) _) rfl ?_;rintro _ _ ⟨rfl,rfl⟩)));exact one_end rfl yG rfl)))));(rintro _ _ _ hgr _ _;(repeat (refine need_cons rfl rfl ?_;intro vq hvq;try (obtain rfl:=hvq)));(refine need_nil ?_))
   replace h2:=h2.grow hgr
   replace h4:=h4.grow hgr
   replace h5:=h5.grow hgr
   replace h6:=h6.grow hgr
   replace hbk:=hbk.grow hgr
   replace hG:=hG.trans hgr
   clear hgr
   repeat (first|(refine TL.isAsg ?_;refine TL.pure rfl rfl ?_)|refine TL.nil ?_|refine thenQ_normal ?_|refine T.seq ?_)
   apply T.any 24 [is _,is _,is _,is _,is _,is _,is _,is _,is _,is _,is _,is _,is _,is _,is _,is _,is _,is _,is _,is _,is _,is _,is _,is _];(· kernel_rfl);(· ((repeat' (first|exact allDo_end|refine allDo_cons ?_ ?_));(iterate 24 (· ((refine does_mk0 rfl rfl rfl ?_);( intro wq _ _ hgq;(repeat (refine need_cons rfl rfl ?_;intro vq hvq;try (obtain rfl:=hvq)));(refine need_nil ?_));(repeat (first|(refine TL.isLoad ?_;refine TL.load1 rfl (Blk.cell (b:=bk) yB rfl) rfl ?_)|refine TL.xorB6 rfl rfl rfl ?_|refine TL.addB6 rfl rfl rfl ?_|refine TL.andB6 rfl rfl rfl ?_|(refine TL.isMove ?_;refine TL.pure rfl rfl ?_)|(refine TL.isIndex ?_;refine TL.indexA1 rfl rfl (by omega) rfl ?_)|refine TL.nil ?_|(refine TL.isFn 184 ?_;refine TL.call rfl (rrot_c _ _ (by decide) _) rfl ?_;rintro _ _ ⟨rfl,rfl⟩)));exact one_end rfl yG rfl)))));(rintro _ _ _ hgr _ _;(repeat (refine need_cons rfl rfl ?_;intro vq hvq;try (obtain rfl:=hvq)));(refine need_nil ?_))
   replace h2:=h2.grow hgr
   replace h4:=h4.grow hgr
   replace h5:=h5.grow hgr
   replace h6:=h6.grow hgr
   replace hbk:=hbk.grow hgr
   replace hG:=hG.trans hgr
   clear hgr
   repeat (first|refine TL.addB6 rfl rfl rfl ?_|(refine TL.isStore ?_;refine TL.storeWh rfl rfl hbk rfl rfl rfl ?_;intro w9 hu hb9 hz9)|(refine TL.isMove ?_;refine TL.pure rfl rfl ?_)|(refine TL.isAsg ?_;refine TL.pure rfl rfl ?_)|refine TL.load1 rfl yM rfl ?_|(refine TL.isIndex ?_;refine TL.indexA1 rfl rfl (by omega) rfl ?_)|(refine TL.isAdd ?_;refine TL.addN rfl rfl (by omega) rfl ?_)|refine TL.nil ?_|refine thenQ_normal ?_|refine T.region ?_|refine blockQ_normal ?_|refine TL.buildArr rfl rfl rfl ?_)
   have hb9':Blk w9 bk 139 ((rnd s' (ks.getD t 0#64) (ws.getD t 0#64)).l.map wB):=by
    simp only [rnd,tOne,tTwo,bs0,bs1,rA14,rA18,rA41,rA28,rA34,rA39,St.l,List.map]
    exact hb9
   replace h2:=h2.upd hu (by omega)
   replace h4:=h4.upd hu (by omega)
   replace h5:=h5.upd hu (by omega)
   replace h6:=h6.upd hu (by omega)
   replace hG:=grow_upd hu (by omega) hG
   clear hu hbk hb9
   exact loopQ_normal (t+1,rnd s' (ks.getD t 0#64) (ws.getD t 0#64)) ⟨rfl,rfl,rfl,rfl,rfl,rfl,trivial⟩ ⟨htk,by rw [hs'];rfl,hb9',h6,h5,h2,h4,hG⟩ (by simp only;omega)
  ·obtain rfl:t=80:=by omega
   have htc:(decide (((80:Nat):Int)<80))=false:=by decide
   repeat (first|(refine TL.isMove ?_;refine TL.pure rfl rfl ?_)|(refine TL.isAsg ?_;refine TL.pure rfl rfl ?_)|refine TL.nil ?_|refine thenQ_normal ?_|refine T.seq ?_|refine T.region ?_|refine T.block ?_|(refine TL.isBin ?_;refine TL.pureF rfl yD rfl ?_)|refine T.cond_false rfl ?_|refine T.exit ?_|refine thenQ_exit ?_|refine blockQ_hit ?_|refine loopQ_exit ?_)
   refine T.loop (S:=Nat) (λ q=>[(17,.int .i64 (q:Int)),(11,.pointer (some ⟨bk,0,none⟩)),(4,.pointer (some ⟨b4,0,none⟩)),(2,.pointer (some ⟨b2,0,none⟩))])
    (λ q w8=>q≤8∧Blk w8 bk 139 ((addL s'.l s.l q).map wB)∧Blk w8 b2 139 (s.l.map wB)∧Blk w8 b4 139 (List.replicate 8 (wB 0#64))∧Grow w w8) (λ q=>8-q) 0 ⟨rfl,rfl,rfl,rfl,trivial⟩ ⟨Nat.zero_le _,hbk,h2,h4,hG⟩ ?_
   clear h2 h4 h5 h6 hbk hG
   rintro q w8 ⟨hq,hbk,h2,h4,hG⟩
   have hal:(addL s'.l s.l q).length=8:=by rw [addL_len];rfl
   by_cases hqk:q<8
   ·have hqc:(decide ((q:Int)<8))=true:=decide_eq_true (by omega)
    repeat (first|(refine TL.isMove ?_;refine TL.pure rfl rfl ?_)|refine TL.nil ?_|refine thenQ_normal ?_|refine T.seq ?_|refine T.region ?_|refine T.block ?_|(refine TL.isBin ?_;refine TL.pureT rfl yD rfl ?_)|refine T.cond_true rfl ?_|refine T.skip ?_)
    apply T.any 8 [is _,is _,is _,is _,is _,is _,is _,is _];(· kernel_rfl);(· ((repeat' (first|exact allDo_end|refine allDo_cons ?_ ?_));(iterate 8 (· ((refine does_mk0 rfl rfl rfl ?_);( intro wq _ _ hgq;(repeat (refine need_cons rfl rfl ?_;intro vq hvq;try (obtain rfl:=hvq)));(refine need_nil ?_));(repeat (first|(refine TL.isLoad ?_;first|refine TL.load1 rfl (Blk.cell (b:=bk) yB (wcell (by omega))) rfl ?_|refine TL.load1 rfl (Blk.cell (b:=b2) yB (wcell (by show q<8;omega))) rfl ?_)|refine TL.addB6 rfl rfl rfl ?_|(refine TL.isMove ?_;refine TL.pure rfl rfl ?_)|(refine TL.isIndex ?_;refine TL.indexA1 rfl rfl (by omega) rfl ?_)|refine TL.nil ?_));exact one_end rfl yG rfl)))));(rintro _ _ _ hgr _ _;(repeat (refine need_cons rfl rfl ?_;intro vq hvq;try (obtain rfl:=hvq)));(refine need_nil ?_))
    replace h2:=h2.grow hgr
    replace h4:=h4.grow hgr
    replace hbk:=hbk.grow hgr
    replace hG:=hG.trans hgr
    clear hgr
    repeat (first|(refine TL.isStore ?_;refine TL.store1 rfl rfl hbk rfl (by rw [List.length_map,hal];exact Nat.ble_eq_true_of_le (by omega)) (map_set _ _ _) ?_;intro w9 hu hb9 hz9)|(refine TL.isMove ?_;refine TL.pure rfl rfl ?_)|(refine TL.isAsg ?_;refine TL.pure rfl rfl ?_)|(refine TL.isIndex ?_;refine TL.indexA1 rfl rfl (by omega) rfl ?_)|(refine TL.isAdd ?_;refine TL.addN rfl rfl (by omega) rfl ?_)|refine TL.nil ?_|refine thenQ_normal ?_|refine T.region ?_|refine blockQ_normal ?_)
    replace h2:=h2.upd hu (by omega)
    replace h4:=h4.upd hu (by omega)
    replace hG:=grow_upd hu (by omega) hG
    clear hu hbk
    exact loopQ_normal (q+1) ⟨rfl,rfl,rfl,rfl,trivial⟩ ⟨hqk,hb9,h2,h4,hG⟩ (by omega)
   ·obtain rfl:q=8:=by omega
    have hqc:(decide (((8:Nat):Int)<8))=false:=by decide
    obtain ⟨rl,hrl⟩:∃ rl,rl=addL s'.l s.l 8:=⟨_,rfl⟩
    rw [← hrl] at hbk hal
    repeat (first|(refine TL.isLoad ?_;refine TL.loadW rfl hbk (by rw [List.length_map,hal];rfl) rfl ?_)|(refine TL.isStore ?_;refine TL.storeWh rfl rfl h4 (by rw [List.length_map,hal];rfl) rfl (by simp [Value.oneCell']) ?_;intro w9 hu9 hb9 hs9)|(refine TL.isMove ?_;refine TL.pure rfl rfl ?_)|refine TL.nil ?_|refine thenQ_normal ?_|refine T.seq ?_|refine T.region ?_|(refine TL.isBin ?_;refine TL.pureF rfl yD rfl ?_)|refine T.cond_false rfl ?_|refine T.ret ?_|refine T.exit ?_|refine thenQ_exit ?_|refine blockQ_hit ?_|refine loopQ_exit ?_)
    exact retC rfl (load_whole hb9 (by rw [List.length_map,hal];rfl)) ⟨_,rfl,by rw [hpb,hrl,hs'],grow_upd hu9 (by omega) hG⟩
end Go.Proofs.YtoldjgmcoekchaaGreatDoor
