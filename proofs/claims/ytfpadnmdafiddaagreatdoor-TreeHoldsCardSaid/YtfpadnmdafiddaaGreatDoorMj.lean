import Derived.Test.YtfpadnmdafiddaaGreatDoorMh
set_option linter.all false
set_option maxHeartbeats 16000000
set_option maxRecDepth 100000
namespace Go.Proofs.YtfpadnmdafiddaaGreatDoor
open Go Go.RowKit Go.V
theorem oread_c (F:Nat→Prop) (a:Option Addr) (n c:Nat) (l:List Nat) (w:World) (hs:Sl F w 1 a n c (cX l)) (hn:n≤1099511627776) :
  Calls Tryz.prog 220 #[.slice a n c] w (Ret λ v w'=>∃ b a' c',v=.pointer (some ⟨b,0,none⟩)∧w.heap.size≤b∧b<w'.heap.size∧Blk w' b 329 (rdr b a' n c' 0 0)∧Sl (λ k=>w.heap.size≤k∧k<b) w' 1 a' n c' (cX l)∧Grow w w'):=by
 refine V.calls (args:=[_]) Tryz.func220 rfl Tryz.ntmps220 rfl rfl ?_
 repeat (first|(refine aB ?_;refine TL.pure rfl rfl ?_)|(refine aD ?_;refine TL.pure rfl rfl ?_)|refine TL.nil ?_|refine aA ?_|refine aJ ?_|refine aC ?_)
 refine aI rfl (grown_c F a n c 0 (cX l) _ hs (eD _) (by omega)) rfl ?_
 rintro v1 w1 ⟨hown,hg0⟩
 obtain ⟨a1,c1,rfl,hsl⟩:=bX hown
 have hsz0:=hg0.size
 repeat (first|(refine aB ?_;refine TL.pure rfl rfl ?_)|(refine aD ?_;refine TL.pure rfl rfl ?_)|refine aF rfl rfl ?_|refine TL.nil ?_|refine aA ?_|refine aJ ?_|refine aC ?_|(refine aP ?_;(refine bQ rfl rfl yB (by exact rfl) (by exact rfl) (by exact rfl) ?_;intro w' hu hbk hsz))|(refine cD ?_;(refine TL.box rfl rfl rfl ?_;intro bk w' hg hbk hsz hsz'))|refine TL.build rfl rfl rfl ?_|refine bM rfl rfl ?_|refine bE ?_)
 have hb1:Blk w' bk 329 (rdr bk a1 n c1 0 0):=hbk
 exact cI rfl ⟨_,rfl,bk,a1,c1,rfl,by omega,by omega,hb1,((hsl.tight.grow hg).upd hu (λ k hk=>by omega)).mono (λ k hk=>⟨hk.1.1,by omega⟩),aX hu (by omega) (hg0.trans hg)⟩
theorem own_c (F:Nat→Prop) (a:Option Addr) (n c:Nat) (l:List Nat) (w:World) (hs:Sl F w 1 a n c (cX l)) (hn:n≤1099511627776) :
  Calls Tryz.prog 20 #[.slice a n c] w (Ret λ v w'=>w'.ownsRow w.heap.size 5 1 v n (cX l)∧Grow w w'):=by
 refine V.calls (args:=[_]) Tryz.func20 rfl Tryz.ntmps20 rfl rfl ?_
 repeat (first|(refine aB ?_;refine TL.pure rfl rfl ?_)|(refine aD ?_;refine TL.pure rfl rfl ?_)|refine TL.nil ?_|refine aA ?_|refine aJ ?_|refine aC ?_|(refine TL.isBuildS ?_;(refine lR rfl ?_;intro bk w' hg hbk hsz hsz')))
 refine kE rfl rfl (own_empty hbk (Nat.le_of_eq hsz)) (hs.grow hg) (eD l) (by omega) (by omega) rfl ?_
 intro v' w2 hown hg2
 repeat (first|(refine aD ?_;refine TL.pure rfl rfl ?_)|refine TL.nil ?_|refine aA ?_|refine bE ?_)
 exact cI rfl ⟨_,rfl,hown,yG⟩
end Go.Proofs.YtfpadnmdafiddaaGreatDoor
namespace Go.Proofs.YtfpadnmdafiddaaGreatDoor
open Go Go.RowKit Go.V
def Rd (B b:Nat) (r:List Nat) (e:Nat) (w:World):Prop :=
 ∃ a n c p L,Blk w b 329 (rdr b a n c p e)∧Sl (λ k=>B≤k∧k<b) w 1 a n c (cX L)∧p≤n∧n≤1099511627776∧(∀ x∈L,x<256)∧L.drop p=r
theorem Rd.grow {B b e:Nat} {r:List Nat} {w w':World} (h:Rd B b r e w) (g:Grow w w'):Rd B b r e w':=by
 obtain ⟨a,n,c,p,L,h1,h2,h3⟩:=h
 exact ⟨a,n,c,p,L,h1.grow g,h2.grow g,h3⟩
theorem rderr_c {B b e:Nat} {r:List Nat} (w:World) (h:Rd B b r e w):Calls Tryz.prog 222 #[.pointer (some ⟨b,0,none⟩)] w (Ret λ v w'=>v=.int .i64 (e:Int)∧w=w'):=by
 obtain ⟨a,n,c,p,L,h1,h2,h3⟩:=h
 exact err_c b a n c p e w h1
theorem numV_le (f:Nat) (t:List Nat):(gP (f::t)).2.1≤(f::t).length:=by
 have hc:=cnt_bd (f:=f)
 simp only [gP]
 split
 ·simp
 ·split
  ·simp only [List.length_cons];omega
  ·simp
end Go.Proofs.YtfpadnmdafiddaaGreatDoor
