import Derived.Test.YtfpadnmdafiddaaGreatDoorMv
import Derived.Test.YtfpadnmdafiddaaGreatDoorMw
set_option linter.all false
set_option maxHeartbeats 16000000
set_option maxRecDepth 100000
namespace Go.Proofs.YtfpadnmdafiddaaGreatDoor
open Go Go.RowKit Go.V
theorem sparet_c {w:World} {L:PL} {g:Pg} (h:PgAt w L g) :
  Calls Tryz.prog 21 #[.pointer (some ⟨L.p,0,none⟩)] w (Ret λ v w'=>v=.int .i64 (bZ g:Int)∧Grow w w'):=by
 have ht:=total_words h.ok
 have hle:jD g.words≤g.count:=by rw [show jD g.words=gT g from ht.symm];exact totalP_le g
 have:=spare_c h hle
 rw [show jD g.words=gT g from ht.symm] at this
 exact this
theorem blk_of_own {w:World} {base elem sz b n:Nat} {xs:List Value} (h:w.ownsRow base elem sz (.slice (some ⟨b,0,none⟩) n n) n xs):Blk w b elem xs:=by
 obtain ⟨hl,h2⟩:=h
 rcases h2 with h2|⟨b',cap,cur,hv,_,hb,_,_,h5,h6⟩
 ·cases h2.1
 ·cases hv
  have e:cur.toList=xs:=by
   have h7:cur.toList.length≤n*sz:=by rw [Array.length_toList,h5];omega
   have h8:List.take (n*sz) cur.toList=xs:=by simpa using h6
   rw [List.take_of_length_le h7] at h8
   exact h8
  unfold Blk
  rw [← e]
  simpa using hb
def pg0 (c:Nat):Pg:=⟨c,List.replicate ((c+63) / 64) 0,λ _=>[]⟩
theorem pg0_none (c n:Nat):dE (pg0 c) n=false:=by
 simp only [dE,pg0,List.getD_eq_getElem?_getD,List.getElem?_replicate]
 split<;>simp
theorem pg0_ok (c:Nat) (h:c≤8192):PgOk (pg0 c) :=
 ⟨by simp [pg0],by intro x hx;simp only [pg0,List.mem_replicate] at hx;omega,λ n _=>by
  simp only [pg0,List.getD_eq_getElem?_getD,List.getElem?_replicate]
  split<;>simp,h⟩
theorem open_c {w:World} {d s m c:Nat} {f:Nat→Option Value} (h:DkAt w d s m (2*c) f) (h1:1≤c) (hc:c≤8192) :
  Calls Tryz.prog 68 #[.pointer (some ⟨d,0,none⟩),.slice none 0 0] w (Ret λ v w'=>∃ L:PL,v=.tuple #[.pointer (some ⟨L.p,0,none⟩),.int .i64 0]∧L.d=d∧L.m=m∧w.heap.size≤L.p∧w.heap.size≤L.u∧PgAt w' L (pg0 c)∧Grow w w'):=by
 refine V.calls (args:=[_,_]) Tryz.func68 rfl Tryz.ntmps68 rfl rfl ?_
 repeat (first|(refine aL 142 ?_;refine aI rfl (dsize_c h) rfl ?_;rintro _ _ ⟨rfl,rfl⟩)|(refine kB ?_;refine mF (a:=2*c) (b:=2) rfl rfl (by omega) (by omega) rfl ?_;rw [show 2*c / 2=c by omega])|(refine aB ?_;refine TL.pure rfl rfl ?_)|(refine aD ?_;refine TL.pure rfl rfl ?_)|refine aK rfl yM rfl ?_|refine aF rfl rfl ?_|(refine bL ?_;refine bT rfl rfl (by omega) rfl ?_)|refine TL.nil ?_|refine aA ?_|refine aJ ?_|refine aC ?_|(refine kB ?_;refine mF rfl rfl (by omega) (by omega) rfl ?_)|(refine aH ?_;refine aQ rfl yD rfl ?_)|(refine cD ?_;(refine dP rfl rfl ?_;intro bk w' hg hbk hsz hsz'))|refine TL.build rfl rfl rfl ?_|refine bM rfl rfl ?_|refine aE rfl ?_|refine aW ?_)
 refine TL.makeAll (c:=(c+63) / 64) (z:=.int .u64 0) rfl rfl (by omega) (by unfold maxLen;omega) rfl ?_
 intro b w2 hb hown hg2
 have hbu:=blk_of_own hown
 have hz2:=hg2.size
 have hzc:(madeCells (Value.int IntKind.u64 0).cells ((c+63) / 64*1)).toList=kC (List.replicate ((c+63) / 64) 0):=by
  have h0:∀ x:Nat,(Value.int IntKind.u64 0).cells[x%(Value.int IntKind.u64 0).cells.size]! = .int .u64 0:=λ x=>by
   rw [show (Value.int IntKind.u64 0).cells = #[.int .u64 0] from rfl]
   simp [Nat.mod_one]
  simp only [kC,madeCells,Nat.mul_one,Array.toList_map,Array.toList_range,h0,List.map_replicate]
  rw [List.map_const',List.length_range]
  rfl
 rw [hzc] at hbu
 repeat (first|(refine aB ?_;refine TL.pure rfl rfl ?_)|refine aF rfl rfl ?_|refine TL.nil ?_|refine aA ?_|refine aJ ?_|refine aC ?_|refine T.block ?_|(refine aP ?_;(refine bQ rfl rfl yB (by exact rfl) (by exact rfl) (by exact rfl) ?_;intro w' hu hbk hsz))|refine bM rfl rfl ?_|refine aO rfl rfl ?_)
 have hbu1:=hbu.upd hu (by omega)
 obtain ⟨w3,hw3⟩:∃ x,x=w':=⟨_,rfl⟩
 refine cU (S:=Unit) (λ _=>[(30,.int .i64 0),(29,.int .i64 0),(6,.pointer (some ⟨bk,0,none⟩))]) (λ _ wx=>wx=w3) (λ _=>0) () ⟨rfl,rfl,rfl,trivial⟩ hw3.symm ?_
 rintro _ wx hwx
 rw [hw3] at hwx
 subst hwx
 repeat (first|(refine aB ?_;refine TL.pure rfl rfl ?_)|(refine aD ?_;refine TL.pure rfl rfl ?_)|refine aF rfl rfl ?_|refine TL.nil ?_|refine aA ?_|refine aJ ?_|refine aC ?_|(refine aH ?_;refine aQ rfl yD rfl ?_)|(refine aP ?_;(refine bQ rfl rfl yB (by exact rfl) (by exact rfl) (by exact rfl) ?_;intro w' hu hbk hsz))|refine bM rfl rfl ?_|refine aE rfl ?_|refine bE ?_|refine cV ?_|refine bN ?_|refine bP ?_|refine bO ?_)
 have hG:Grow w w':=by exact yG
 have hne:b≠bk:=by omega
 have hbu2:Blk w' b 168 (kC (List.replicate ((c+63) / 64) 0))
  := hbu1.upd hu hne
 have hfin:Blk w' bk 150 (pgc bk d b c ((c+63) / 64)):=hbk
 have hdl:=h.blk.lt
 have hml:=h.map.lt
 refine jM rfl rfl ⟨_,rfl,⟨bk,d,b,m,s⟩,rfl,rfl,rfl,by simp only;omega,by simp only;omega,⟨?_,hbu2,pg0_ok c hc,hc,⟨f,h.grow hG,λ n hn=>?_⟩,λ n x hx=>?_,λ n hn=>?_,?_⟩,hG⟩
 ·show Blk w' bk 150 (pgc bk d b c (List.replicate ((c+63) / 64) 0).length)
  rw [List.length_replicate];exact hfin
 ·rw [pg0_none] at hn;cases hn
 ·cases hx
 ·rw [pg0_none] at hn;cases hn
 ·simp only;omega
end Go.Proofs.YtfpadnmdafiddaaGreatDoor
