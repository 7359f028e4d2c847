import Derived.Test.YtfpadnmdafiddaaGreatDoorYh
set_option linter.all false
set_option maxHeartbeats 16000000
set_option maxRecDepth 100000
namespace Go.Proofs.YtfpadnmdafiddaaGreatDoor
open Go Go.RowKit Go.V
theorem oread_c (F:Nat→Prop) (a:Option Addr) (n c:Nat) (l:List Nat) (w:World) (hs:Sl F w 1 a n c (bys l)) (hn:n≤1099511627776) :
  Calls Tryz.prog 220 #[.slice a n c] w (Ret λ v w'=>∃ b a' c',v=.pointer (some ⟨b,0,none⟩)∧w.heap.size≤b∧b<w'.heap.size∧Blk w' b 329 (rdr b a' n c' 0 0)∧Sl (λ k=>w.heap.size≤k∧k<b) w' 1 a' n c' (bys l)∧Grow w w'):=by
 refine V.calls (args:=[_]) Tryz.func220 rfl Tryz.ntmps220 rfl rfl ?_
 repeat (first|(refine TL.isMove ?_;refine TL.pure rfl rfl ?_)|(refine TL.isAsg ?_;refine TL.pure rfl rfl ?_)|refine TL.nil ?_|refine thenQ_normal ?_|refine T.seq ?_|refine T.region ?_)
 refine TL.call rfl (grown_c F a n c 0 (bys l) _ hs (bys_one _) (by omega)) rfl ?_
 rintro v1 w1 ⟨hown,hg0⟩
 obtain ⟨a1,c1,rfl,hsl⟩:=sl_of_own hown
 have hsz0:=hg0.size
 repeat (first|(refine TL.isMove ?_;refine TL.pure rfl rfl ?_)|(refine TL.isAsg ?_;refine TL.pure rfl rfl ?_)|refine TL.fieldAddr rfl rfl ?_|refine TL.nil ?_|refine thenQ_normal ?_|refine T.seq ?_|refine T.region ?_|(refine TL.isStore ?_;(refine TL.store1 rfl rfl yB (by exact rfl) (by exact rfl) (by exact rfl) ?_;intro w' hu hbk hsz))|(refine TL.isBox ?_;(refine TL.box rfl rfl rfl ?_;intro bk w' hg hbk hsz hsz'))|refine TL.build rfl rfl rfl ?_|refine TL.nilCheck rfl rfl ?_|refine T.ret ?_)
 have hb1:Blk w' bk 329 (rdr bk a1 n c1 0 0):=hbk
 exact ret1 rfl ⟨_,rfl,bk,a1,c1,rfl,by omega,by omega,hb1,((hsl.tight.grow hg).upd hu (λ k hk=>by omega)).mono (λ k hk=>⟨hk.1.1,by omega⟩),grow_upd hu (by omega) (hg0.trans hg)⟩
theorem own_c (F:Nat→Prop) (a:Option Addr) (n c:Nat) (l:List Nat) (w:World) (hs:Sl F w 1 a n c (bys l)) (hn:n≤1099511627776) :
  Calls Tryz.prog 20 #[.slice a n c] w (Ret λ v w'=>w'.ownsRow w.heap.size 5 1 v n (bys l)∧Grow w w'):=by
 refine V.calls (args:=[_]) Tryz.func20 rfl Tryz.ntmps20 rfl rfl ?_
 repeat (first|(refine TL.isMove ?_;refine TL.pure rfl rfl ?_)|(refine TL.isAsg ?_;refine TL.pure rfl rfl ?_)|refine TL.nil ?_|refine thenQ_normal ?_|refine T.seq ?_|refine T.region ?_|(refine TL.isBuildS ?_;(refine TL.buildSlice0 rfl ?_;intro bk w' hg hbk hsz hsz')))
 refine TL.append_empty rfl rfl (own_empty hbk (Nat.le_of_eq hsz)) (hs.grow hg) (bys_one l) (by omega) (by omega) rfl ?_
 intro v' w2 hown hg2
 repeat (first|(refine TL.isAsg ?_;refine TL.pure rfl rfl ?_)|refine TL.nil ?_|refine thenQ_normal ?_|refine T.ret ?_)
 exact ret1 rfl ⟨_,rfl,hown,yG⟩
end Go.Proofs.YtfpadnmdafiddaaGreatDoor
namespace Go.Proofs.YtfpadnmdafiddaaGreatDoor
open Go Go.RowKit Go.V
def Rd (B b:Nat) (r:List Nat) (e:Nat) (w:World):Prop :=
 ∃ a n c p L,Blk w b 329 (rdr b a n c p e)∧Sl (λ k=>B≤k∧k<b) w 1 a n c (bys L)∧p≤n∧n≤1099511627776∧(∀ x∈L,x<256)∧L.drop p=r
theorem Rd.grow {B b e:Nat} {r:List Nat} {w w':World} (h:Rd B b r e w) (g:Grow w w'):Rd B b r e w':=by
 obtain ⟨a,n,c,p,L,h1,h2,h3⟩:=h
 exact ⟨a,n,c,p,L,h1.grow g,h2.grow g,h3⟩
theorem rderr_c {B b e:Nat} {r:List Nat} (w:World) (h:Rd B b r e w):Calls Tryz.prog 222 #[.pointer (some ⟨b,0,none⟩)] w (Ret λ v w'=>v=.int .i64 (e:Int)∧w=w'):=by
 obtain ⟨a,n,c,p,L,h1,h2,h3⟩:=h
 exact err_c b a n c p e w h1
theorem numV_le (f:Nat) (t:List Nat):(numV (f::t)).2.1≤(f::t).length:=by
 have hc:=cnt_bd (f:=f)
 simp only [numV]
 split
 ·simp
 ·split
  ·simp only [List.length_cons];omega
  ·simp
end Go.Proofs.YtfpadnmdafiddaaGreatDoor
