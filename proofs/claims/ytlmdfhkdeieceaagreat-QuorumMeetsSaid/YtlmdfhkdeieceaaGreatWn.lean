import Derived.Test.YtlmdfhkdeieceaaGreatWm
set_option linter.all false
set_option maxHeartbeats 16000000
set_option maxRecDepth 100000
namespace Go.Proofs.YtlmdfhkdeieceaaGreat
open Go Go.E
@[reducible] def glQ:Gl:={ plainGl (λ _=>none) with byt:=λ t=>not (Nat.beq t 47) }
attribute [local instance] glQ
abbrev QM:Nat:=3
noncomputable abbrev fiQ:FI:=fiOf Tryz.f3
def usedL:List Nat:=[3,7,8,9,10,11,12,13,14,15,17,18,19,20,22,23,24,25,26,27,28,29,30,31,32,33,34,35,36,37,38,39,40,41,42,43,44,45,46,47,48,49,50,51,52,53,54,55,56,59,60,61,63,64,67,68,69,70,71,72,73,74,75,76,78,80,81,82,84,87,88,89,90,91,92,93,94,95,96,97,98,100,106,110,111,112,113,115,116,117,118]
def LP:List Bool:=[false,false,true,false,true,true,true,true,true]
noncomputable def sg (tab:Tr S.TE) (u:List Bool) (e:E2) (h:H) (nx:Nat) (k:X→E2→S.M2→Bool):Bool:=S.segK ctxq tab 200 QM fiQ.n u ((sub fiQ.body u).getD .skip) e h nx k
noncomputable def norm (k:E2→H→Nat→Bool):X→E2→S.M2→Bool:=λ x e m=>match x with|.normal=>S.mH m λ h nx=>k e h nx|_=>false
def cover (ψ : Iso) (h:H):Bool:=h.allB λ b _=>(ψ.get b).isSome
def env3 (n b:Nat) (v6:V):E2:=e2Of λ t=>if t=3 then .at (.int .i64 n) else if t=4 then .at (.ptr b 0) else if t=6 then v6 else .undef
noncomputable def likeQ (n:Nat) (h:H) (nx:Nat) (chk:V→Bool) (e1:E2) (h1:H):Bool:=match slot e1 3,slot e1 4 with
  | .at (.int .i64 n1),.at (.ptr b1 0)=>S.iF (Nat.beq n1 n) (reachK h h1 1000000 [(0,b1)] .lf .lf λ ψ φ=>S.iF (isoP ψ 0 b1) (S.iF (isoH ψ φ nx h h1) (S.iF (cover ψ h) (chk (slot e1 6)) false) false) false) false
  | _,_=>false
noncomputable def startQ (tab:Tr S.TE) (n:Nat) (h':H) (nx':Nat):Bool :=
  sg tab [false,true,true,true] (e2Of λ t=>if t=3 then .at (.int .i64 n) else .undef) .lf 0 (norm λ e h nx=>sg tab [false,true,true,true,true] e h nx (norm λ e h nx=>sg tab [false,false,true,true,true,true,true] e h nx (norm λ e h _ =>
    likeQ n h' nx' (λ v=>match v with|.at (.int .i64 0)=>true|_=>false) e h)))
noncomputable def turnQ (tab:Tr S.TE) (n:Nat) (h:H) (nx:Nat) (h':H) (nx':Nat) (v6:V) (chk:V→Bool):Bool:=sg tab (false::true::LP) (env3 n 0 v6) h nx (norm λ e h _=>likeQ n h' nx' chk e h)
noncomputable def endsQ (tab:Tr S.TE) (n:Nat) (h:H) (nx:Nat):Bool:=sg tab [true,true,true,true,true,true] (env3 n 0 .undef) h nx λ x e m=>match x with|.ret=>isT (slot e 2)|_=>false
end Go.Proofs.YtlmdfhkdeieceaaGreat
