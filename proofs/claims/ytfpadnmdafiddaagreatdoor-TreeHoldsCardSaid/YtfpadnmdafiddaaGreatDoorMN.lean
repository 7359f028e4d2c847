import Derived.Test.YtfpadnmdafiddaaGreatDoorML
import Derived.Test.YtfpadnmdafiddaaGreatDoorMM
set_option linter.all false
set_option maxHeartbeats 16000000
set_option maxRecDepth 100000
namespace Go.Proofs.YtfpadnmdafiddaaGreatDoor
open Go Go.RowKit Go.V
theorem PgW.other {w w':World} {L:PL} {g:Pg} {S:Nat→Prop} (h:PgW w L g) (b:ButS S w w') (hL:∀ k,k=L.p∨k=L.d∨k=L.u∨k=L.m→¬ S k) (h0:¬ S 0):PgW w' L g :=
 ⟨h.at_.keep (λ k hk=>b.block k (by have:=h.at_.lts;omega) (hL k hk)),h.tab.buts b h0,h.ne0⟩
theorem grow_many {S:Nat→Prop} {w w0 w1:World} (hg:Grow w w0) (h:ButS S w0 w1) (hm:∀ k,S k→w.heap.size≤k):Grow w w1 :=
 ⟨⟨h.os.trans hg.1.os,h.tape.trans hg.1.tape,h.output.trans hg.1.output,by have:=hg.2;have:=h.size;omega,λ k hk=>(h.block k (by have:=hg.2;omega) (λ e=>by have:=hm k e;omega)).trans (hg.block k hk)⟩,by have:=hg.2;have:=h.size;omega⟩
end Go.Proofs.YtfpadnmdafiddaaGreatDoor
