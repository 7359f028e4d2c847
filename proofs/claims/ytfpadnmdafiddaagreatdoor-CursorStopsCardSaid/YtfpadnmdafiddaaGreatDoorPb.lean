import Derived.Test.YtfpadnmdafiddaaGreatDoorP0
import Derived.Test.YtfpadnmdafiddaaGreatDoorPa
import Derived.Test.YtfpadnmdafiddaaGreatDoorRows
import Derived.ProofKit
import Derived.OpenShut
import Derived.ShutString
import Derived.ChangeOld
import Derived.Below
import Derived.Lib.SmallJoins
import Derived.Stop.BytesEq
import Derived.Laws.Externs
set_option linter.all false
set_option maxHeartbeats 16000000
set_option maxRecDepth 100000
namespace Go.V
open Go Go.RowKit
class Mixed (P:Program):Prop where
 h:P.follows .mixedOrders=true
def bH (o:Oper):List Nat:=o.after.toList.filterMap λ e=>if Region.binds .any e then some e.on else none
def lC:List Nat→List Nat
 | []=>[]
 | x::xs=>if xs.any (Nat.beq x) then lC xs else x::lC xs
theorem fE {x:Nat}:∀ {xs:List Nat},x∈lC xs↔x∈xs
 | []=>Iff.rfl
 | y::ys=>by
  unfold lC;split
  ·rename_i h;obtain ⟨z,hz,hb⟩:=List.any_eq_true.1 h;have hyz:=Nat.eq_of_beq_eq_true hb;subst hyz;rw [fE,List.mem_cons];exact ⟨Or.inr,λ h=>h.elim (λ h=>h▸hz) id⟩
  ·rw [List.mem_cons,List.mem_cons,fE]
def fM (l:List Oper) (i:Nat):Nat:=((l[i]?).bind (·.dst)).getD 0
abbrev Fact:=Value→Nat→Nat→World→Prop
structure SFact (B:Nat) where
 G:Fact
 st:∀ v lo hi w w',Grow w w'→G v lo hi w→G v lo hi w'
 firm:Bool:=false
 fm:firm=true→∀ v lo hi w w',Below B w w'→G v lo hi w→G v lo hi w':=by intro h;cases h
variable {B:Nat}
def gO:List (SFact B)→Nat→Fact
 | [],_=>λ _ _ _ _=>True
 | g::_,0=>g.G
 | _::gs,i+1=>gO gs i
def mA:List (SFact B)→Nat→Bool
 | [],_=>true
 | g::_,0=>g.firm
 | _::gs,i+1=>mA gs i
theorem factAt_keep:∀ (Gs:List (SFact B)) (i:Nat) (v:Value) (lo hi:Nat) (w w':World),Grow w w'→gO Gs i v lo hi w→gO Gs i v lo hi w'
 | [],_,_,_,_,_,_,_,_=>trivial
 | g::_,0,v,lo,hi,w,w',h,k=>g.st v lo hi w w' h k
 | _::gs,i+1,v,lo,hi,w,w',h,k=>factAt_keep gs i v lo hi w w' h k
theorem factAt_firm:∀ (Gs:List (SFact B)) (i:Nat) (v:Value) (lo hi:Nat) (w w':World),mA Gs i=true→Below B w w'→gO Gs i v lo hi w→gO Gs i v lo hi w'
 | [],_,_,_,_,_,_,_,_,_=>trivial
 | g::_,0,v,lo,hi,w,w',hf,h,k=>g.fm hf v lo hi w w' h k
 | _::gs,i+1,v,lo,hi,w,w',hf,h,k=>factAt_firm gs i v lo hi w w' hf h k
def anyFact:SFact B:=⟨λ _ _ _ _=>True,λ _ _ _ _ _ _ _=>trivial,true,λ _ _ _ _ _ _ _ _=>trivial⟩
def leftOf (L:Nat):Nat→List (SFact B)→List (SFact B)
 | _,[]=>[]
 | i,g::gs=>(bif g.firm || Nat.beq i L then g else anyFact)::leftOf L (i+1) gs
theorem leftOf_at (L:Nat):∀ (Gs:List (SFact B)) (k i:Nat) (v:Value) (lo hi:Nat) (w:World),((mA Gs i=true∨k+i=L)→gO Gs i v lo hi w)→gO (leftOf L k Gs) i v lo hi w
 | [],_,_,_,_,_,_,_=>trivial
 | g::_,k,0,v,lo,hi,w,h=>by
  simp only [leftOf,gO]
  cases hc:(g.firm || Nat.beq k L) with
  | true =>
   simp only [cond_true];refine h ?_;simp only [Bool.or_eq_true] at hc;rcases hc with hc|hc
   ·exact Or.inl hc
   ·exact Or.inr (Nat.eq_of_beq_eq_true hc)
  | false=>trivial
 | _::gs,k,i+1,v,lo,hi,w,h=>leftOf_at L gs (k+1) i v lo hi w λ hh=>h (hh.imp id (λ h2=>by omega))
def Need (l:List Oper) (Gs:List (SFact B)) (w:World) (lo hi:Nat→Nat) (K:dI→Prop):List Nat→dI→Prop
 | [],acc=>K acc
 | j::js,acc=>∀ v,gO Gs j v (lo j) (hi j) w→Need l Gs w lo hi K js ((fM l j,v)::acc)
def stepR (loose:Bool) (B:Nat) (w w':World):Prop:=match loose with
 | true=>Below B w w'
 | false=>Grow w w'
def oneQ (loose:Bool) (B:Nat) (d:Nat) (G:Fact) (w:World):dA:=λ x e' w' =>
 match x with
 | .normal=>∃ v,find e' d=some v∧stepR loose B w w'∧G v w.heap.size w'.heap.size w'
 | _=>False
def Does [Rn] (P:Program) (n:Nat) (l:List Oper) (e:dI) (w0:World) (Gs:List (SFact B)) (L i:Nat):Prop :=
 match l[i]? with
 | none=>True
 | some o=>∀ w lo hi,Grow w0 w→Need l Gs w lo hi (λ acc=>TL P n l.toArray [o] acc w (oneQ (Nat.beq i L) B (fM l i) (gO Gs i) w)) (lC (bH o)) e
def AllDo [Rn] (P:Program) (n:Nat) (l:List Oper) (e:dI) (w0:World) (Gs:List (SFact B)) (L:Nat):Nat→Nat→Prop
 | _,0=>True
 | i,k+1=>Does P n l e w0 Gs L i∧AllDo P n l e w0 Gs L (i+1) k
def looseOk (l:List Oper) (Gs:List (SFact B)) (L:Nat):Nat→Nat→Bool
 | _,0=>true
 | i,k+1=>(Nat.beq i L || (match l[L]? with|some o=>(bH o).any (Nat.beq i)|none=>false) || (match l[i]? with|some o=>(bH o).all λ j=>mA Gs j || Nat.beq j L|none=>true))&&looseOk l Gs L (i+1) k
def mY:Nat→Nat→List Nat
 | _,0=>[]
 | i,k+1=>i::mY (i+1) k
def headOk (l:List Oper) (e:dI) (n:Nat):Nat→Nat→Bool
 | _,0=>true
 | i,k+1=>(match l[i]? with
   | some o=>(match o.dst with|some d=>Nat.blt d n&&(find e d).isNone&&(mY 0 i).all (λ j=>!(Nat.beq (fM l j) d))|none=>false)&&(bH o).all (λ j=>Nat.blt j i)
   | none=>false)&&headOk l e n (i+1) k
def sinkOk (l:List Oper) (N:Nat):Bool :=
 (mY 0 N).all λ i=>(mY (i+1) (N-i)).any λ j=>(match l[j]? with|some o=>(bH o).any (Nat.beq i)|none=>false)
def mV (l:List Oper):Nat→Nat→Nat→Bool
 | _,_,0=>true
 | N,i,k+1=>(match l[i]? with
   | some o=>(bH o).all (λ j=>Nat.blt j i)&&(Nat.beq i N || (bH o).any (Nat.beq (i-1)))
   | none=>false)&&mV l N (i+1) k
theorem fC {x:Nat}:∀ {k i:Nat},x∈mY i k↔i≤x∧x<i+k
 | 0,i=>by simp only [mY,List.not_mem_nil,false_iff];omega
 | k+1,i=>by simp only [mY,List.mem_cons,fC (k:=k) (i:=i+1)];omega
theorem looseOk_at {l:List Oper} {Gs:List (SFact B)} {L:Nat}:∀ {k i:Nat},looseOk l Gs L i k=true→∀ j,i≤j→j<i+k→j=L∨(∃ o,l[L]? = some o∧j∈bH o)∨∀ o,l[j]? = some o→∀ x∈bH o,mA Gs x=true∨x=L
 | 0,i,_,j,h1,h2=>by omega
 | k+1,i,h,j,h1,h2=>by
  simp only [looseOk,Bool.and_eq_true,Bool.or_eq_true] at h;obtain ⟨h,hr⟩:=h;by_cases hj:j=i
  ·subst hj;rcases h with (h|h)|h
   ·exact Or.inl (Nat.eq_of_beq_eq_true h)
   ·cases ho:l[L]? with
    | none=>simp [ho] at h
    | some o =>
     simp only [ho] at h;obtain ⟨y,hy,hb⟩:=List.any_eq_true.1 h;have hxy:=Nat.eq_of_beq_eq_true hb;rw [hxy];exact Or.inr (Or.inl ⟨o,rfl,hy⟩)
   ·refine Or.inr (Or.inr λ o ho x hx=>?_);rw [ho] at h;simp only at h;have:=List.all_eq_true.1 h x hx;simp only [Bool.or_eq_true] at this;exact this.imp id Nat.eq_of_beq_eq_true
  ·exact looseOk_at hr j oM oM
structure HeadAt (l:List Oper) (e:dI) (n i:Nat):Prop where
 ex:∃ o d,l[i]? = some o∧o.dst=some d∧d<n∧find e d=none∧(∀ j,j<i→fM l j≠d)∧∀ j∈bH o,j<i
theorem headOk_at {l:List Oper} {e:dI} {n:Nat}:∀ {k i:Nat},headOk l e n i k=true→∀ j,i≤j→j<i+k→HeadAt l e n j
 | 0,i,_,j,h1,h2=>by omega
 | k+1,i,h,j,h1,h2=>by
  simp only [headOk,Bool.and_eq_true] at h;obtain ⟨h,hr⟩:=h;by_cases hj:j=i
  ·subst hj
   cases ho:l[j]? with
   | none=>simp [ho] at h
   | some o =>
    simp only [ho] at h
    cases hd:o.dst with
    | none=>simp [hd] at h
    | some d =>
     simp only [hd,Bool.and_eq_true,List.all_eq_true] at h;obtain ⟨⟨⟨h3,h4⟩,h5⟩,h6⟩:=h;refine ⟨o,d,ho,hd,Nat.le_of_ble_eq_true h3,by simpa using h4,λ x hx=>?_,λ x hx=>Nat.le_of_ble_eq_true (h6 x hx)⟩;have:=h5 x (fC.2 ⟨Nat.zero_le _,oM⟩);simp only [Bool.not_eq_true'] at this;exact Nat.ne_of_beq_eq_false this
  ·exact headOk_at hr j oM oM
theorem lM {l:List Oper} {N:Nat}:∀ {k i:Nat},mV l N i k=true→∀ j,i≤j→j<i+k→∃ o,l[j]? = some o∧(∀ x∈bH o,x<j)∧(j=N∨j-1∈bH o)
 | 0,i,_,j,h1,h2=>by omega
 | k+1,i,h,j,h1,h2=>by
  simp only [mV,Bool.and_eq_true] at h;obtain ⟨h,hr⟩:=h;by_cases hj:j=i
  ·subst hj
   cases ho:l[j]? with
   | none=>simp [ho] at h
   | some o =>
    simp only [ho,Bool.and_eq_true,List.all_eq_true,Bool.or_eq_true] at h;refine ⟨o,rfl,λ x hx=>Nat.le_of_ble_eq_true (h.1 x hx),?_⟩;rcases h.2 with h2|h2
    ·exact Or.inl (Nat.eq_of_beq_eq_true h2)
    ·obtain ⟨y,hy,hb⟩:=List.any_eq_true.1 h2;have hxy:=Nat.eq_of_beq_eq_true hb;rw [hxy];exact Or.inr hy
  ·exact lM hr j oM oM
theorem mem_depsOf {o:Oper} {j:Nat}:j∈bH o↔∃ e∈o.after,Region.binds .any e=true∧e.on=j:=by
 unfold bH;rw [List.mem_filterMap];constructor
 ·rintro ⟨e,he,h⟩;split at h
  ·rename_i hb;exact ⟨e,by simpa using he,hb,by simpa using h⟩
  ·cases h
 ·rintro ⟨e,he,hb,rfl⟩;exact ⟨e,by simpa using he,by simp [hb]⟩
theorem sinkOk_at {l:List Oper} {N:Nat} (h:sinkOk l N=true) (i:Nat) (hi:i<N):∃ j o,i<j∧j≤N∧l[j]? = some o∧i∈bH o:=by
 have:=List.all_eq_true.1 h i (fC.2 ⟨Nat.zero_le _,oM⟩);obtain ⟨j,hj,hb⟩:=List.any_eq_true.1 this;obtain ⟨h1,h2⟩:=fC.1 hj
 cases ho:l[j]? with
 | none=>simp [ho] at hb
 | some o =>
  simp only [ho] at hb;obtain ⟨y,hy,hb⟩:=List.any_eq_true.1 hb;have a0:=Nat.eq_of_beq_eq_true hb;subst a0;exact ⟨j,o,oM,oM,ho,hy⟩
theorem cT {l:List Oper} {a0:Array Bool} {j:Nat}:j∈Region.ready .any l.toArray a0↔a0.getD j true=false∧∃ o,l[j]? = some o∧∀ x∈bH o,a0.getD x false=true:=by
 rw [mem_ready];constructor
 ·rintro ⟨h1,o,h2,h3⟩;refine ⟨h1,o,by simpa using h2,λ x hx=>?_⟩;obtain ⟨e,he,hb,rfl⟩:=mem_depsOf.1 hx;exact h3 e he hb
 ·rintro ⟨h1,o,h2,h3⟩;exact ⟨h1,o,by simpa using h2,λ e he hb=>h3 e.on (mem_depsOf.2 ⟨e,he,hb,rfl⟩)⟩
theorem wp_frame {P:Program} {ro:Option Nat} {o:Oper} {a:Act} {w:World} {K:Act→World→Prop} {Q:Exit→Act→World→Prop} (h:o.wpIn (FR ro) 0 P a w K Q) :
  o.wpIn (FR ro) 0 P a w (λ a' w'=>K a' w'∧∃ v,a'.tmps=(a.put o.dst v).tmps) Q:=by
 unfold Oper.wpIn at *;refine ⟨λ _ _=>trivial,?_⟩;have h:=h.2;generalize (o.semAt (FR ro).round a.eval).run P w=r at *
 cases r with
 | ok nx w' =>
  cases nx<;>simp only [Oper.uponIn] at h ⊢ <;>
   first
    | exact ⟨h,_,rfl⟩
    | exact ⟨h.1,CallsIn.mono h.2 (λ e a0 he=>by cases e<;>first|exact ⟨he,_,rfl⟩|exact he)⟩
    | exact ⟨h.1,RowsIn.mono h.2 (λ _ _ he=>⟨he,_,rfl⟩)⟩
    | exact ⟨h.1,RoundIn.mono h.2 (λ e a0 he=>by cases e<;>first|exact ⟨he,_,rfl⟩|exact he)⟩
    | (refine ⟨h,undef,?_⟩;cases o.dst<;>rfl)
 | halt x w'=>cases x<;>simp only [Oper.uponIn] at h ⊢<;>exact h
theorem wp_swap {P:Program} {ro:Option Nat} {o:Oper} {a:Act} {w:World} {K:Act→World→Prop} {Q Q':Exit→Act→World→Prop} (h:o.wpIn (FR ro) 0 P a w K Q) (hq:∀ x a w,x≠.normal→Q x a w→Q' x a w):o.wpIn (FR ro) 0 P a w K Q':=by
 unfold Oper.wpIn at *;refine ⟨λ _ _=>trivial,?_⟩;have h:=h.2;generalize (o.semAt (FR ro).round a.eval).run P w=r at *
 have hc:∀ {K2:Value→World→Prop} (e:Ending) (a0:World),(match e,a0 with
   | .returned v,a0=>K2 v a0
   | .panicked chain,a0=>Q (.panic chain) a a0
   | .outgrown,_=>LetsOut Q)→(match e,a0 with
   | .returned v,a0=>K2 v a0
   | .panicked chain,a0=>Q' (.panic chain) a a0
   | .outgrown,_=>LetsOut Q'):=λ e a0 he=>by
  cases e with
  | returned v=>exact he
  | panicked ch=>exact hq _ _ _ sM he
  | outgrown=>obtain ⟨a1,w1,h1⟩:=he;exact ⟨a1,w1,hq _ _ _ sM h1⟩
 cases r with
 | ok nx w' =>
  cases nx<;>simp only [Oper.uponIn] at h ⊢ <;>
   first
    | exact h
    | exact ⟨h.1,CallsIn.mono h.2 λ e a0 he=>hc e a0 he⟩
    | exact ⟨h.1,RowsIn.mono h.2 (λ _ _ he=>he)⟩
    | exact ⟨h.1,RoundIn.mono h.2 λ e a0 he=>hc e a0 he⟩
 | halt x w'=>cases x<;>simp only [Oper.uponIn] at h ⊢<;>first|exact h|exact hq _ _ _ sM h
theorem jN {a:Act} {d t:Nat} {v:Value} (hd:d<a.tmps.size):(a.put (some d) v).tmps.getD t undef=if d=t then v else a.tmps.getD t undef:=by
 simp only [Act.put,Array.getD_eq_getD_getElem?];by_cases h:d=t
 ·subst h;simp [hd]
 ·rw [Array.getElem?_setIfInBounds_ne h,if_neg h]
def getG:List (SFact B)→Nat→Option (SFact B)
 | [],_=>none
 | g::_,0=>some g
 | _::gs,i+1=>getG gs i
theorem getG_at:∀ {Gs:List (SFact B)} {i:Nat} {g:SFact B},getG Gs i=some g→gO Gs i=g.G
 | _::_,0,_,h=>by simp only [getG,Option.some.injEq] at h;subst h;rfl
 | _::gs,i+1,g,h=>getG_at (Gs:=gs) (i:=i) (g:=g) h
theorem dstAt_of {l:List Oper} {i d:Nat} (h:(l[i]?).bind (·.dst)=some d):fM l i=d:=by unfold fM;rw [h];rfl
theorem aJ {l:List Oper} {Gs:List (SFact B)} {w:World} {lo hi:Nat→Nat} {K:dI→Prop} {j d:Nat} {g:SFact B} {js:List Nat} {a0:dI} (hd:(l[j]?).bind (·.dst)=some d) (hg:getG Gs j=some g) (h:∀ v,g.G v (lo j) (hi j) w→Need l Gs w lo hi K js ((d,v)::a0)):Need l Gs w lo hi K (j::js) a0:=by
 intro v hv;rw [getG_at hg] at hv;rw [dstAt_of hd];exact h v hv
theorem aZ {l:List Oper} {Gs:List (SFact B)} {w:World} {lo hi:Nat→Nat} {K:dI→Prop} {a0:dI} (h:K a0):Need l Gs w lo hi K [] a0:=h
theorem need_mono {l:List Oper} {Gs:List (SFact B)} {w:World} {lo hi:Nat→Nat} {K K':dI→Prop} (hk:∀ a0,K a0→K' a0):∀ {js:List Nat} {a0:dI},Need l Gs w lo hi K js a0→Need l Gs w lo hi K' js a0
 | [],a0,h=>hk a0 h
 | j::js,a0,h=>λ v hv=>need_mono hk (h v hv)
theorem need_env {l:List Oper} {Gs:List (SFact B)} {w:World} {lo hi:Nat→Nat} {K:dI→Prop} {vs:Nat→Value}:∀ {js:List Nat} {e0:dI},Need l Gs w lo hi K js e0→(∀ j∈js,gO Gs j (vs j) (lo j) (hi j) w) →
  ∃ a0,K a0∧∀ t v,find a0 t=some v→(∃ j∈js,t=fM l j∧v=vs j)∨find e0 t=some v
 | [],e0,h,_=>⟨e0,h,λ t v hv=>Or.inr hv⟩
 | j::js,e0,h,hf=>by
  obtain ⟨a0,hk,hall⟩:=need_env (h (vs j) (hf j sM)) (λ x hx=>hf x (by simp [hx]));refine ⟨a0,hk,λ t v hv=>?_⟩;rcases hall t v hv with ⟨x,hx,h1,h2⟩|h3
  ·exact Or.inl ⟨x,by simp [hx],h1,h2⟩
  ·rw [fT] at h3;by_cases ht:fM l j=t
   ·rw [if_pos ht] at h3;exact Or.inl ⟨j,sM,ht.symm,(Option.some.inj h3).symm⟩
   ·rw [if_neg ht] at h3;exact Or.inr h3
section any
variable [Rn]
variable {P:Program} {n:Nat} {l:List Oper} {e:dI} {w0:World} {Gs:List (SFact w0.heap.size)} {N L:Nat} {Q:dA}
structure Mid (n:Nat) (l:List Oper) (e:dI) (w0:World) (Gs:List (SFact B)) (N L:Nat) (listed:Array Bool) (a:Act) (w:World) (vs:Nat→Value) (lo hi:Nat→Nat):Prop where
 size:listed.size=l.length
 grow:Grow w0 w
 defers:a.defers=Rn.ds
 tmps:a.tmps.size=n
 get:∀ t v,find e t=some v→a.tmps.getD t undef=v
 did:∀ i,i<N→listed.getD i false=true→((mA Gs i=true∨i=L∨listed.getD L false=false)→gO Gs i (vs i) (lo i) (hi i) w)∧a.tmps.getD (fM l i) undef=vs i
 span:∀ i,i<N→listed.getD i false=true→w0.heap.size≤lo i∧lo i≤hi i∧hi i≤w.heap.size
 apart:∀ i j,i<N→j<N→i≠j→listed.getD i false=true→listed.getD j false=true→hi i≤lo j∨hi j≤lo i
 rest:∀ i,N≤i→listed.getD i false=false
 closed:∀ j o,l[j]? = some o→listed.getD j false=true→∀ x∈bH o,listed.getD x false=true
theorem allDo_at:∀ {k i:Nat},AllDo P n l e w0 Gs L i k→∀ j,i≤j→j<i+k→Does P n l e w0 Gs L j
 | 0,_,_,j,h1,h2=>by omega
 | k+1,i,h,j,h1,h2=>by
  by_cases hj:j=i
  ·subst hj;exact h.1
  ·exact allDo_at h.2 j oM oM
theorem nB {Q:Exit→Act→World→Prop} (ht:∀ j,N≤j→j<l.length→∃ o,l[j]? = some o∧(∀ x∈bH o,x<j)∧(j=N∨j-1∈bH o)) :
  ∀ (f i:Nat) (a0:Array Bool) (a:Act) (w:World),i+f=l.length→N≤i→a0.size=l.length→(∀ x,x<i→a0.getD x false=true)→(∀ x,i≤x→x<l.length→a0.getD x true=false) →
   wpListIn (FR Rn.ro) 0 P l.toArray Q (l.drop i) a w→wpAnyIn (FR Rn.ro) 0 P .any l.toArray Q f a0 a w:=by
 intro f
 induction f with
 | zero =>
  intro i a0 a w hi hN hs h1 h2 h;have o0:i=l.length:=by omega
  subst o0;refine ⟨?_,by simpa [wpListIn] using h⟩;rw [List.eq_nil_iff_forall_not_mem];intro j hj;obtain ⟨h3,o,h4,_⟩:=cT.1 hj;have g0:j<l.length:=(List.getElem?_eq_some_iff.1 h4).1;have:=h1 j g0;rw [Array.getD_eq_getD_getElem?] at this h3
  cases hx:a0[j]? with
  | none=>rw [Array.getElem?_eq_none_iff] at hx;omega
  | some b=>simp [hx] at this h3;rw [this] at h3;cases h3
 | succ f ih =>
  intro i a0 a w hi hN hs h1 h2 h;obtain ⟨o,ho,hb,p0⟩:=ht i hN oM
  have n0:∀ j,j∈Region.ready .any l.toArray a0→j=i:=by
   intro j hj;obtain ⟨h3,o',h4,h5⟩:=cT.1 hj;have g0:j<l.length:=(List.getElem?_eq_some_iff.1 h4).1;rcases Nat.lt_or_ge j i with k0|k0
   ·have:=h1 j k0;rw [Array.getD_eq_getD_getElem?] at this h3
    cases hx:a0[j]? with
    | none=>rw [Array.getElem?_eq_none_iff] at hx;omega
    | some b=>simp [hx] at this h3;rw [this] at h3;cases h3
   ·by_cases i0:j=i
    ·exact i0
    ·obtain ⟨o2,h6,_,h7⟩:=ht j oM g0;rw [h4] at h6;cases h6;have h8:=h5 (j-1) (h7.resolve_left oM);have h9:=h2 (j-1) oM oM;rw [Array.getD_eq_getD_getElem?] at h8 h9
     cases hx:a0[j-1]? with
     | none=>rw [Array.getElem?_eq_none_iff] at hx;omega
     | some b=>simp [hx] at h8 h9;rw [h8] at h9;cases h9
  have l0:i∈Region.ready .any l.toArray a0:=cT.2 ⟨h2 i (Nat.le_refl _) oM,o,ho,λ x hx=>h1 x (hb x hx)⟩;refine ⟨(λ h0=>by rw [h0] at l0;cases l0),λ j hj=>?_⟩;have:=n0 j hj;subst this
  have f0:l.drop j=o::l.drop (j+1):=by
   rw [List.drop_eq_getElem_cons oM]
   have:l[j]'(by omega)=o:=by
    have:=List.getElem?_eq_some_iff.1 ho;exact this.2
   rw [this]
  rw [f0] at h;unfold wpOpIn;rw [show l.toArray[j]? = some o by simpa using ho];unfold wpListIn at h;simp only
  have e0:∀ a w,wpListIn (FR Rn.ro) 0 P l.toArray Q (l.drop (j+1)) a w→wpAnyIn (FR Rn.ro) 0 P .any l.toArray Q f (a0.setIfInBounds j true) a w:=λ a w hh =>
   ih (j+1) (a0.setIfInBounds j true) a w oM oM (by simp [hs])
    (λ x hx=>by
     by_cases j0:j=x
     ·subst j0;simp [Array.getD_eq_getD_getElem?,hs];omega
     ·rw [Array.getD_eq_getD_getElem?,Array.getElem?_setIfInBounds_ne j0,← Array.getD_eq_getD_getElem?];exact h1 x oM)
    (λ x hx m0=>by rw [Array.getD_eq_getD_getElem?,Array.getElem?_setIfInBounds_ne oM,← Array.getD_eq_getD_getElem?];exact h2 x oM m0) hh
  split
  ·rename_i hw;rw [if_pos hw] at h;exact Oper.wpIn_mono e0 h
  ·rename_i hw;rw [if_neg hw] at h;exact ⟨h.1,e0 _ _ h.2⟩
theorem any_runs (F:Nat) (hN:N≤l.length) (w1:N<l.length→∀ i,i<N→i≠F→∃ j o,i<j∧j≤N∧j≠F∧l[j]? = some o∧i∈bH o)
  (e4:∀ (a0:Array Bool) (a:Act) (w:World) (vs:Nat→Value) (lo hi:Nat→Nat),F<N→Mid n l e w0 Gs N L a0 a w vs lo hi→(∀ i,i<N→i≠F→a0.getD i false=true)→a0.getD F false=false→wpAnyIn (FR Rn.ro) 0 P .any l.toArray (iG n Q) (1+(l.length-N)) a0 a w)
  (u2:N≤L∨∀ j,j<N→j=L∨(∃ o,l[L]? = some o∧j∈bH o)∨∀ o,l[j]? = some o→∀ x∈bH o,mA Gs x=true∨x=L)
  (Gs':List (SFact w0.heap.size)) (f2:∀ i v lo hi w,((mA Gs i=true∨i=L∨N≤L)→gO Gs i v lo hi w)→gO Gs' i v lo hi w)
  (hh:∀ i,i<N→HeadAt l e n i) (ht:∀ j,N≤j→j<l.length→∃ o,l[j]? = some o∧(∀ x∈bH o,x<j)∧(j=N∨j-1∈bH o))
  (g4:∀ i,i<N→Does P n l e w0 Gs L i)
  (r1:∀ w (lo hi:Nat→Nat) (vs:Nat→Value),Grow w0 w→(∀ i,i<N→w0.heap.size≤lo i∧lo i≤hi i∧hi i≤w.heap.size)→(∀ i j,i<N→j<N→i≠j→hi i≤lo j∨hi j≤lo i)→(∀ j,j<N→gO Gs' j (vs j) (lo j) (hi j) w) →
   ∃ j2,TL P n l.toArray (l.drop N) j2 w Q∧∀ t v,find j2 t=some v→(∃ j,j<N∧t=fM l j∧v=vs j)∨find e t=some v) :
  ∀ (m:Nat) (a0:Array Bool) (a:Act) (w:World) (vs:Nat→Value) (lo hi:Nat→Nat) (f:Nat),Mid n l e w0 Gs N L a0 a w vs lo hi →
   ((List.range N).filter λ i=>!(a0.getD i false)).length=m→f=m+(l.length-N)→wpAnyIn (FR Rn.ro) 0 P .any l.toArray (iG n Q) f a0 a w:=by
 intro m
 induction m with
 | zero =>
  intro a0 a w vs lo hi f f0 hm hf
  have l0:∀ i,i<N→a0.getD i false=true:=by
   intro i hi;have:=List.eq_nil_of_length_eq_zero hm;have h2:=List.eq_nil_iff_forall_not_mem.1 this i;simp only [List.mem_filter,List.mem_range,not_and,Bool.not_eq_true',Bool.not_eq_false] at h2;exact h2 hi
  refine nB ht f N a0 a w oM (Nat.le_refl _) f0.size l0 (λ x hx m1=>?_) ?_
  ·have:=f0.rest x hx;rw [Array.getD_eq_getD_getElem?] at this ⊢
   cases hy:a0[x]? with
   | none=>rw [Array.getElem?_eq_none_iff] at hy;have:=f0.size;omega
   | some b=>simpa [hy] using this
  ·obtain ⟨j2,hk,n0⟩:=r1 w lo hi vs f0.grow (λ i q3=>f0.span i q3 (l0 i q3)) (λ i j h1 h2 h3=>f0.apart i j h1 h2 h3 (l0 i h1) (l0 j h2)) (λ j hj=>f2 j _ _ _ _ λ hh=>(f0.did j hj (l0 j hj)).1 (hh.imp id (λ h=>h.imp id (λ h=>f0.rest L h))));refine hk.out ⟨f0.defers,f0.tmps,λ t v hv=>?_⟩;rcases n0 t v hv with ⟨j,hj,rfl,rfl⟩|h3
   ·exact (f0.did j hj (l0 j hj)).2
   ·exact f0.get t v h3
 | succ m ih =>
  intro a0 a w vs lo hi f f0 hm hf;by_cases p0:F<N∧a0.getD F false=false∧∀ i,i<N→i≠F→a0.getD i false=true
  ·obtain ⟨n4,m4,s3⟩:=p0;have s0:((List.range N).filter λ i=>!(a0.getD i false)).Nodup:=List.Pairwise.filter _ List.nodup_range
   have k0:∀ x∈((List.range N).filter λ i=>!(a0.getD i false)),x=F:=by
    intro x hx;simp only [List.mem_filter,List.mem_range,Bool.not_eq_true'] at hx;by_cases j1:x=F
    ·exact j1
    ·have:=s3 x hx.1 j1;rw [this] at hx;cases hx.2
   have a4:m=0:=by
    generalize ((List.range N).filter λ i=>!(a0.getD i false))=xs at *
    match xs,hm,s0,k0 with
    | [_],hm,_,_=>simp at hm;exact hm
    | x::y::r,_,s0,k0 =>
     exfalso;have h1:=k0 x sM;have h2:=k0 y sM;rw [List.nodup_cons] at s0;exact s0.1 (by rw [h1,← h2];simp)
   subst a4;rw [hf];exact e4 a0 a w vs lo hi n4 f0 s3 m4
  have y1:∃ i,i<N∧i≠F∧a0.getD i false=false:=by
   have d2:((List.range N).filter λ i=>!(a0.getD i false))≠[]:=by intro h0;rw [h0] at hm;simp at hm
   obtain ⟨i,hi⟩:=List.exists_mem_of_ne_nil _ d2;simp only [List.mem_filter,List.mem_range,Bool.not_eq_true'] at hi;by_cases q1:i=F
   ·subst q1;apply Classical.byContradiction;intro z3;refine p0 ⟨hi.1,hi.2,λ x hx j1=>?_⟩
    cases hv:a0.getD x false with
    | true=>rfl
    | false=>exact absurd ⟨x,hx,j1,hv⟩ z3
   ·exact ⟨i,hi.1,q1,hi.2⟩
  obtain ⟨f',rfl⟩:∃ f',f=f'+1:=⟨f-1,oM⟩
  have v0:∀ j,j∈Region.ready .any l.toArray a0→j<N∧a0.getD j false=false:=by
   intro j hj;obtain ⟨h3,o,h4,h5⟩:=cT.1 hj;have j3:j<l.length:=(List.getElem?_eq_some_iff.1 h4).1
   have f4:a0.getD j false=false:=by
    rw [Array.getD_eq_getD_getElem?] at h3 ⊢
    cases hx:a0[j]? with
    | none=>simp
    | some b=>simpa [hx] using h3
   refine ⟨?_,f4⟩;rcases Nat.lt_or_ge j N with h|h
   ·exact h
   ·exfalso;obtain ⟨o2,h6,_,h7⟩:=ht j h j3;rw [h4] at h6;cases h6;obtain ⟨i,hi,q1,c4⟩:=y1;by_cases m3:j=N
    ·subst m3
     have key:∀ k i,j-i≤k→i<j→i≠F→a0.getD i false=false→False:=by
      intro k
      induction k with
      | zero=>intro i h1 h2;omega
      | succ k ihk =>
       intro i h1 h2 q1 hl;obtain ⟨x,o3,q2,m1,j1,r2,g3⟩:=w1 j3 i h2 q1;by_cases u3:x=j
       ·subst u3;rw [h4] at r2;cases r2;have:=h5 i g3;rw [hl] at this;cases this
       ·refine ihk x oM oM j1 ?_
        cases hv:a0.getD x false with
        | false=>rfl
        | true =>
         have:=f0.closed x o3 r2 hv i g3;rw [hl] at this;cases this
     exact key _ i (Nat.le_refl _) hi q1 c4
    ·have h8:=h5 (j-1) (h7.resolve_left m3);rw [f0.rest (j-1) oM] at h8;cases h8
  have u1:Region.ready .any l.toArray a0≠[]:=by
   have key:∀ k i,i≤k→i<N→a0.getD i false=false→∃ j,j∈Region.ready .any l.toArray a0:=by
    intro k
    induction k with
    | zero =>
     intro i hi t0 hl;obtain ⟨o,d,ho,_,_,_,_,g0⟩:=(hh i t0).ex;refine ⟨i,cT.2 ⟨?_,o,ho,λ x hx=>?_⟩⟩
     ·rw [Array.getD_eq_getD_getElem?] at hl ⊢
      cases hx:a0[i]? with
      | none=>rw [Array.getElem?_eq_none_iff] at hx;have:=f0.size;omega
      | some b=>simpa [hx] using hl
     ·have:=g0 x hx;omega
    | succ k ihk =>
     intro i hi t0 hl;obtain ⟨o,d,ho,_,_,_,_,g0⟩:=(hh i t0).ex;by_cases hx:∃ x∈bH o,a0.getD x false=false
     ·obtain ⟨x,q2,m1⟩:=hx;have:=g0 x q2;exact ihk x oM oM m1
     ·refine ⟨i,cT.2 ⟨?_,o,ho,λ x q2=>?_⟩⟩
      ·rw [Array.getD_eq_getD_getElem?] at hl ⊢
       cases hx:a0[i]? with
       | none=>rw [Array.getElem?_eq_none_iff] at hx;have:=f0.size;omega
       | some b=>simpa [hx] using hl
      ·cases hv:a0.getD x false with
       | true=>rfl
       | false=>exact absurd ⟨x,q2,hv⟩ hx
   have d2:((List.range N).filter λ i=>!(a0.getD i false))≠[]:=by intro h0;rw [h0] at hm;simp at hm
   obtain ⟨i,hi⟩:=List.exists_mem_of_ne_nil _ d2;simp only [List.mem_filter,List.mem_range,Bool.not_eq_true'] at hi;obtain ⟨j,hj⟩:=key i i (Nat.le_refl _) hi.1 hi.2;intro h0;rw [h0] at hj;cases hj
  refine ⟨λ h0=>absurd h0 u1,λ i p3=>?_⟩;obtain ⟨t0,w2⟩:=v0 i p3;obtain ⟨_,o,ho,d3⟩:=cT.1 p3;obtain ⟨o',d,i3,hd,i4,k4,l4,g0⟩:=(hh i t0).ex;rw [ho] at i3;cases i3;have y0:fM l i=d:=by simp [fM,ho,hd]
  have z0:=g4 i t0;unfold Does at z0;simp only [ho] at z0
  have f1:∀ j∈bH o,mA Gs j=true∨j=L∨a0.getD L false=false:=by
   intro j hj;rcases u2 with h|u2
   ·exact Or.inr (Or.inr (f0.rest L h))
   rcases u2 i t0 with h|⟨oL,y3,g2⟩|h
   ·subst h;exact Or.inr (Or.inr w2)
   ·refine Or.inr (Or.inr ?_)
    cases hv:a0.getD L false with
    | false=>rfl
    | true =>
     have:=f0.closed L oL y3 hv i g2;rw [w2] at this;cases this
   ·exact (h o ho j hj).imp id Or.inl
  obtain ⟨j2,hk,n0⟩:=need_env (vs:=vs) (z0 w lo hi f0.grow) (λ j hj=>(f0.did j (by have:=g0 j (fE.1 hj);omega) (d3 j (fE.1 hj))).1 (f1 j (fE.1 hj)))
  have x2:Fits n j2 a:=⟨f0.defers,f0.tmps,λ t v hv=>by
   rcases n0 t v hv with ⟨j,hj,rfl,rfl⟩|h3
   ·exact (f0.did j (by have:=g0 j (fE.1 hj);omega) (d3 j (fE.1 hj))).2
   ·exact f0.get t v h3⟩
  have j0:=hk.out x2;unfold wpOpIn;rw [show l.toArray[i]? = some o by simpa using ho];simp only
  have q0:∀ a' w',iG n (oneQ (Nat.beq i L) w0.heap.size (fM l i) (gO Gs i) w) .normal a' w'→(∃ v,a'.tmps=(a.put o.dst v).tmps)→wpAnyIn (FR Rn.ro) 0 P .any l.toArray (iG n Q) f' (a0.setIfInBounds i true) a' w':=by
   rintro a' w' ⟨e',y2,v,hv,hg,hG⟩ ⟨u,hu⟩
   have d4:Grow w0 w':=by
    cases hb:Nat.beq i L with
    | true=>rw [hb] at hg;exact Grow.mk (f0.grow.1.trans hg)
    | false=>rw [hb] at hg;exact f0.grow.trans hg
   rw [y0] at hv;have s2:a'.tmps.getD d undef=v:=y2.get d v hv;rw [hu,hd] at s2;have z2:d<a.tmps.size:=by rw [f0.tmps];exact i4
   rw [jN z2,if_pos rfl] at s2;subst s2
   have m0:∀ t,t≠d→a'.tmps.getD t undef=a.tmps.getD t undef:=λ t ht=>by
    rw [hu,hd,jN z2,if_neg (λ h=>ht h.symm)]
   have w3:w.heap.size≤w'.heap.size:=by
    cases hb:Nat.beq i L with
    | true=>rw [hb] at hg;exact hg.size
    | false=>rw [hb] at hg;exact hg.size
   refine ih (a0.setIfInBounds i true) a' w' (λ j=>if j=i then u else vs j) (λ j=>if j=i then w.heap.size else lo j) (λ j=>if j=i then w'.heap.size else hi j) f' ⟨by simp [f0.size],d4,y2.defers,y2.size,λ t v hv=>?_,λ j hj o0=>?_,λ j hj o0=>?_,λ j k hj hk b4 o0 k3=>?_,λ j hj=>?_,λ j oj z1 o0 x hx=>?_⟩ ?_ oM
   ·have x3:t≠d:=λ h=>by rw [h,k4] at hv;cases hv
    rw [m0 t x3];exact f0.get t v hv
   ·by_cases i0:j=i
    ·subst i0;simp only [if_true];refine ⟨λ _=>hG,?_⟩;rw [y0,hu,hd,jN z2,if_pos rfl]
    ·simp only [if_neg i0]
     have x0:a0.getD j false=true:=by
      rwa [Array.getD_eq_getD_getElem?,Array.getElem?_setIfInBounds_ne (λ h=>i0 h.symm),← Array.getD_eq_getD_getElem?] at o0
     obtain ⟨h1,h2⟩:=f0.did j hj x0;refine ⟨λ r3=>?_,?_⟩
     ·cases hb:Nat.beq i L with
      | false =>
       rw [hb] at hg;have g2:=Nat.ne_of_beq_eq_false hb;refine factAt_keep Gs j _ _ _ w w' hg (h1 (r3.imp id (λ h=>h.imp id (λ h=>?_))));rwa [Array.getD_eq_getD_getElem?,Array.getElem?_setIfInBounds_ne g2,← Array.getD_eq_getD_getElem?] at h
      | true =>
       rw [hb] at hg;have g2:=Nat.eq_of_beq_eq_true hb;subst g2;have s1:i<a0.size:=by rw [f0.size];exact (List.getElem?_eq_some_iff.1 ho).1
       have u0:mA Gs j=true:=by
        rcases r3 with h|h|h
        ·exact h
        ·exact absurd h i0
        ·simp [Array.getD_eq_getD_getElem?,s1] at h
       exact factAt_firm Gs j _ _ _ w w' u0 hg (h1 (Or.inl u0))
     have d2:fM l j≠d:=by
      rcases Nat.lt_or_ge j i with h|h
      ·exact l4 j h
      ·obtain ⟨oj,dj,z1,j4,_,_,f3,_⟩:=(hh j hj).ex;have h3:=f3 i oM;rw [y0] at h3;have:fM l j=dj:=by simp [fM,z1,j4]
       rw [this];exact λ h=>h3 h.symm
     rw [m0 _ d2];exact h2
   ·by_cases i0:j=i
    ·subst i0;simp only [if_true];exact ⟨f0.grow.size,w3,Nat.le_refl _⟩
    ·have x0:a0.getD j false=true:=by
      rwa [Array.getD_eq_getD_getElem?,Array.getElem?_setIfInBounds_ne (λ h=>i0 h.symm),← Array.getD_eq_getD_getElem?] at o0
     simp only [if_neg i0];have:=f0.span j hj x0;omega
   ·have old:∀ x,x≠i→(a0.setIfInBounds i true).getD x false=true→a0.getD x false=true:=λ x hx h=>by
     rwa [Array.getD_eq_getD_getElem?,Array.getElem?_setIfInBounds_ne (λ h=>hx h.symm),← Array.getD_eq_getD_getElem?] at h
    by_cases i0:j=i
    ·by_cases o1:k=i
     ·omega
     ·simp only [if_pos i0,if_neg o1];have:=f0.span k hk (old k o1 k3);omega
    ·by_cases o1:k=i
     ·simp only [if_neg i0,if_pos o1];have:=f0.span j hj (old j i0 o0);omega
     ·simp only [if_neg i0,if_neg o1];exact f0.apart j k hj hk b4 (old j i0 o0) (old k o1 k3)
   ·rw [Array.getD_eq_getD_getElem?,Array.getElem?_setIfInBounds_ne oM,← Array.getD_eq_getD_getElem?];exact f0.rest j hj
   ·by_cases g1:i=x
    ·subst g1;have s1:i<a0.size:=by rw [f0.size];exact (List.getElem?_eq_some_iff.1 ho).1
     simp [Array.getD_eq_getD_getElem?,s1]
    ·rw [Array.getD_eq_getD_getElem?,Array.getElem?_setIfInBounds_ne g1,← Array.getD_eq_getD_getElem?];by_cases i0:i=j
     ·subst i0;rw [ho] at z1;cases z1;exact d3 x hx
     ·rw [Array.getD_eq_getD_getElem?,Array.getElem?_setIfInBounds_ne i0,← Array.getD_eq_getD_getElem?] at o0;exact f0.closed j oj z1 o0 x hx
   ·
    have e1:∀ (L:List Nat),L.Nodup→i∈L→(L.filter λ j=>!((a0.setIfInBounds i true).getD j false)).length+1=(L.filter λ j=>!(a0.getD j false)).length:=by
     intro L
     induction L with
     | nil=>intro _ h;cases h
     | cons x xs ihx =>
      intro s0 k0;rw [List.nodup_cons] at s0;have s1:i<a0.size:=by rw [f0.size];exact (List.getElem?_eq_some_iff.1 ho).1
      by_cases g1:x=i
      ·subst g1
       have x1:(xs.filter λ j=>!((a0.setIfInBounds x true).getD j false))=xs.filter λ j=>!(a0.getD j false):=by
        apply List.filter_congr;intro y hy;have t3:x≠y:=λ h=>s0.1 (h▸hy);rw [Array.getD_eq_getD_getElem?,Array.getElem?_setIfInBounds_ne t3,← Array.getD_eq_getD_getElem?]
       have h1:(a0.setIfInBounds x true).getD x false=true:=by simp [Array.getD_eq_getD_getElem?,s1]
       rw [List.filter_cons_of_neg (by simp [h1]),x1,List.filter_cons_of_pos (by simp [w2])];simp
      ·have e2:i∈xs:=by
        rcases List.mem_cons.1 k0 with h|h
        ·exact absurd h.symm g1
        ·exact h
       have:=ihx s0.2 e2
       have m1:(a0.setIfInBounds i true).getD x false=a0.getD x false:=by
        rw [Array.getD_eq_getD_getElem?,Array.getElem?_setIfInBounds_ne (λ h=>g1 h.symm),← Array.getD_eq_getD_getElem?]
       cases hc:a0.getD x false with
       | true=>rw [List.filter_cons_of_neg (by simp [m1,hc]),List.filter_cons_of_neg (by simp [hc])];exact this
       | false=>rw [List.filter_cons_of_pos (by simp [m1,hc]),List.filter_cons_of_pos (by simp [hc])];simp only [List.length_cons];omega
    have:=e1 (List.range N) List.nodup_range (List.mem_range.2 t0);omega
  unfold wpListIn at j0;split
  ·rename_i hw;rw [if_pos hw] at j0
   exact (Oper.wpIn_mono (λ a' w' hh=>q0 a' w' hh.1 hh.2) (wp_swap (wp_frame j0) (λ x a w hx hq=>by
     refine (lift_no hq λ e0 w0 hq=>?_).elim
     cases x<;>first|exact absurd rfl hx|exact hq)))
  ·rename_i hw;rw [if_neg hw] at j0;exact ⟨j0.1,q0 _ _ j0.2 ⟨undef,rfl⟩⟩
def is (v:Value):SFact B:=⟨λ u _ _ _=>u=v,λ _ _ _ _ _ _ h=>h,true,λ _ _ _ _ _ _ _ h=>h⟩
def own (base elem sz m:Nat) (xs:List Value):SFact B:={ G:=λ v _ _ w=>w.ownsRow base elem sz v m xs,st:=λ _ _ _ _ _ g h=>aO h g }
def slF (F:Nat→Prop) (sz m c:Nat) (cs:List Value):SFact B:={ G:=λ v _ _ w=>∃ a,v=.slice a m c∧Sl F w sz a m c cs,st:=λ v _ _ w w' g h=>by obtain ⟨a,h1,h2⟩:=h;exact ⟨a,h1,h2.grow g⟩ }
def newB (t:TypeId) (cs:List Value):SFact B:={ G:=λ v lo hi w=>∃ b,v=.pointer (some ⟨b,0,none⟩)∧lo≤b∧b<hi∧Blk w b t cs,st:=λ v _ _ w w' g h=>by obtain ⟨b,h1,h2,h3,h4⟩:=h;exact ⟨b,h1,h2,h3,h4.grow g⟩ }
theorem aN {i:Nat}:AllDo P n l e w0 Gs L i 0:=trivial
theorem aK {i k:Nat} (h:Does P n l e w0 Gs L i) (hs:AllDo P n l e w0 Gs L (i+1) k):AllDo P n l e w0 Gs L i (k+1):=⟨h,hs⟩
theorem does_mk {i d:Nat} {o:Oper} {g:SFact w0.heap.size} {b:Bool} (ho:l[i]? = some o) (hd:o.dst=some d) (hg:getG Gs i=some g) (hb:Nat.beq i L=b) (h:∀ w lo hi,Grow w0 w→Need l Gs w lo hi (λ a0=>TL P n l.toArray [o] a0 w (oneQ b w0.heap.size d g.G w)) (lC (bH o)) e):Does P n l e w0 Gs L i:=by
 unfold Does;rw [ho];simp only;rw [getG_at hg,hb,dstAt_of (d:=d) (by rw [ho];exact hd)];exact h
theorem TL.lone {ops:Array Oper} {d:Option Nat} {op:Op} {ty:TypeId} {pos:String} {aft:Array Edge} {Q:dA} {w:World} (h:TL P n #[] [⟨d,op,ty,pos,aft,none⟩] e w Q):TL P n ops [⟨d,op,ty,pos,aft,none⟩] e w Q:=TL.mk λ a ha=>by
 have h:=h.out ha;simp only [wpListIn,Region.wanted,if_true] at h ⊢;exact h
theorem bW {i d:Nat} {op:Op} {ty:TypeId} {pos:String} {aft:Array Edge} {g:SFact w0.heap.size} {b:Bool} (ho:l[i]? = some ⟨some d,op,ty,pos,aft,none⟩) (hg:getG Gs i=some g) (hb:Nat.beq i L=b) (h:∀ w lo hi,Grow w0 w→Need l Gs w lo hi (λ a0=>TL P n #[] [⟨some d,op,ty,pos,aft,none⟩] a0 w (oneQ b w0.heap.size d g.G w)) (lC (bH ⟨some d,op,ty,pos,aft,none⟩)) e):Does P n l e w0 Gs L i :=
 does_mk ho rfl hg hb λ w lo hi e0=>need_mono (λ a0=>TL.lone) (h w lo hi e0)
theorem T.anyG {j0:Nat} (N L:Nat) (Gs Gs':List (SFact w0.heap.size)) [hm:Mixed P] (hc:(headOk l e n 0 N&&mV l N N (l.length-N)&&Nat.ble N l.length&&(Nat.ble l.length N || sinkOk l N))=true) (g0:N≤L∨looseOk l Gs L 0 N=true)
  (f0:∀ i v lo hi w,((mA Gs i=true∨i=L∨N≤L)→gO Gs i v lo hi w)→gO Gs' i v lo hi w)
  (k0:AllDo P n l e w0 Gs L 0 N) (a0:∀ w (lo hi:Nat→Nat),Grow w0 w→(∀ i,i<N→w0.heap.size≤lo i∧lo i≤hi i∧hi i≤w.heap.size)→(∀ i j,i<N→j<N→i≠j→hi i≤lo j∨hi j≤lo i)→Need l Gs' w lo hi (λ h0=>TL P n l.toArray (l.drop N) h0 w Q) (mY 0 N) e):T P n (.region j0 l.toArray true) e w0 Q:=by
 simp only [Bool.and_eq_true] at hc;obtain ⟨⟨⟨n0,m0⟩,l0⟩,i0⟩:=hc
 have e0:N<l.length→sinkOk l N=true:=by
  intro o0;simp only [Bool.or_eq_true] at i0;rcases i0 with h|h
  ·have:=Nat.le_of_ble_eq_true h;omega
  ·exact h
 have hN:N≤l.length:=Nat.le_of_ble_eq_true l0;refine T.mk λ a ha=>wpIn_region_any hm.h ?_
 refine any_runs (L:=L) (N+1) hN (λ hl i hi _=>by obtain ⟨j,o,h1,h2,h3⟩:=sinkOk_at (e0 hl) i hi;exact ⟨j,o,h1,h2,oM,h3⟩) (λ _ _ _ _ _ _ h=>by omega) (g0.imp id (λ g0 j hj=>looseOk_at g0 j (Nat.zero_le _) oM)) Gs' f0 (λ i hi=>headOk_at n0 i (Nat.zero_le _) oM) (λ j h1 h2=>lM m0 j h1 oM) (λ i hi=>allDo_at k0 i (Nat.zero_le _) oM) (λ w lo hi vs h1 h2 h3 h4=>by
   obtain ⟨h0,hk,hf⟩:=need_env (vs:=vs) (a0 w lo hi h1 h2 h3) (λ j hj=>h4 j (by have:=(fC.1 hj).2;omega))
   exact ⟨h0,hk,λ t v hv=>(hf t v hv).imp (λ ⟨j,hj,h5⟩=>⟨j,by have:=(fC.1 hj).2;omega,h5⟩) id⟩)
  N (Array.replicate l.toArray.size false) a _ (λ _=>undef) (λ _=>0) (λ _=>0) _ ⟨sM,Grow.drew _,ha.defers,ha.size,ha.get,λ i _ h=>?_,λ i _ h=>?_,λ i j _ _ _ h _=>?_,λ i _=>?_,λ j o _ h x _=>?_⟩ ?_ (by simp;omega)
 ·exfalso;rw [Array.getD_eq_getD_getElem?] at h;rcases Nat.lt_or_ge i l.length with hi|hi
  ·simp [hi] at h
  ·simp [hi] at h
 ·exfalso;rw [Array.getD_eq_getD_getElem?] at h;rcases Nat.lt_or_ge i l.length with hi|hi
  ·simp [hi] at h
  ·simp [hi] at h
 ·exfalso;rw [Array.getD_eq_getD_getElem?] at h;rcases Nat.lt_or_ge i l.length with hi|hi
  ·simp [hi] at h
  ·simp [hi] at h
 ·rw [Array.getD_eq_getD_getElem?];rcases Nat.lt_or_ge i l.length with hi|hi
  ·simp [hi]
  ·simp [hi]
 ·exfalso;rw [Array.getD_eq_getD_getElem?] at h;rcases Nat.lt_or_ge j l.length with hi|hi
  ·simp [hi] at h
  ·simp [hi] at h
 ·have:((List.range N).filter λ i=>!((Array.replicate l.toArray.size false).getD i false))=List.range N:=by
   rw [List.filter_eq_self];intro i hi;rw [Array.getD_eq_getD_getElem?];rcases Nat.lt_or_ge i l.length with hi|hi
   ·simp [hi]
   ·simp [hi]
  rw [this];simp
theorem T.anyL {e0:Nat} (N L:Nat) (Gs:List (SFact w0.heap.size)) [hm:Mixed P] (hc:(headOk l e n 0 N&&mV l N N (l.length-N)&&Nat.ble N l.length&&(Nat.ble l.length N || sinkOk l N))=true) (f0:looseOk l Gs L 0 N=true)
  (g0:AllDo P n l e w0 Gs L 0 N) (a0:∀ w (lo hi:Nat→Nat),Grow w0 w→(∀ i,i<N→w0.heap.size≤lo i∧lo i≤hi i∧hi i≤w.heap.size)→(∀ i j,i<N→j<N→i≠j→hi i≤lo j∨hi j≤lo i)→Need l (leftOf L 0 Gs) w lo hi (λ h0=>TL P n l.toArray (l.drop N) h0 w Q) (mY 0 N) e):T P n (.region e0 l.toArray true) e w0 Q :=
 T.anyG N L Gs (leftOf L 0 Gs) hc (Or.inr f0) (λ i v lo hi w h=>leftOf_at L Gs 0 i v lo hi w λ hh=>h (hh.imp id (λ h=>Or.inl oM))) g0 a0
theorem T.any {e0:Nat} (N:Nat) (Gs:List (SFact w0.heap.size)) [hm:Mixed P] (hc:(headOk l e n 0 N&&mV l N N (l.length-N)&&Nat.ble N l.length&&(Nat.ble l.length N || sinkOk l N))=true)
  (f0:AllDo P n l e w0 Gs N 0 N) (a0:∀ w (lo hi:Nat→Nat),Grow w0 w→(∀ i,i<N→w0.heap.size≤lo i∧lo i≤hi i∧hi i≤w.heap.size)→(∀ i j,i<N→j<N→i≠j→hi i≤lo j∨hi j≤lo i)→Need l Gs w lo hi (λ g0=>TL P n l.toArray (l.drop N) g0 w Q) (mY 0 N) e):T P n (.region e0 l.toArray true) e w0 Q :=
 T.anyG N N Gs Gs hc (Or.inl (Nat.le_refl _)) (λ _ _ _ _ _ h=>h (Or.inr (Or.inr (Nat.le_refl _)))) f0 a0
def but (F:Nat):Nat→Nat→List Nat
 | _,0=>[]
 | i,k+1=>if Nat.beq i F then but F (i+1) k else i::but F (i+1) k
theorem aD {d B:Nat} {G:Fact} {w w':World} {e':dI} {v:Value} (hv:find e' d=some v) (hg:Grow w w') (hG:G v w.heap.size w'.heap.size w'):oneQ false B d G w .normal e' w':=⟨v,hv,hg,hG⟩
theorem one_loose {d B:Nat} {G:Fact} {w w':World} {e':dI} {v:Value} (hv:find e' d=some v) (hg:Below B w w') (hG:G v w.heap.size w'.heap.size w'):oneQ true B d G w .normal e' w':=⟨v,hv,hg,hG⟩
end any
end Go.V
namespace Go.Proofs.YtfpadnmdafiddaaGreatDoor
open Go Go.RowKit Go.V Go.ChangeShapes Go.WideShapes Go.ChangeAt
theorem godebug_own:ownKnob Tryz.prog.godebug=none:=by kernel_rfl
theorem laid_out:laidOutB Tryz.prog=true:=by kernel_rfl
section
variable {H:Type} {enc:TypeId×Value→H} {P:Program} {W W':World}
theorem kept_all (hl:laidOutB P=true) (hb:Below W.heap.size W W'):∀ (ts:List TypeId) (vs:List Value) (ds:List (DataW H)) (ps:List MemPlace),
  (ts.all λ t=>P.readableRec t&&decide (t<P.types.size))=true→DataW.TrodAll enc P W 0 (λ _=>true) true ts vs ds ps→DataW.TrodAll enc P W' 0 (λ b=>decide (b<W.heap.size)) true ts vs ds ps
 | [],[],[],_,_,h=>h
 | t::ts,v::vs,d::ds,_,hr,⟨p,q,h1,h2,h3⟩=>by
  simp only [List.all_cons,Bool.and_eq_true,decide_eq_true_eq] at hr;refine ⟨p,q,Below.trod hl hr.1.1 hr.1.2 h1 hb ?_,kept_all hl hb ts vs ds q (by simpa using hr.2) h2,h3⟩;obtain ⟨m,hm⟩:=h1;exact DataW.trod_lt m _ _ _ hm
 | [],[],_::_,_,_,h=>h.elim
 | [],_::_,_,_,_,h=>by cases ‹List (DataW H)›<;>exact h.elim
 | _::_,[],_,_,_,h=>by cases ‹List (DataW H)›<;>exact h.elim
 | _::_,_::_,[],_,_,h=>h.elim
theorem sl_in {t e:TypeId} {k:IntKind} {fuel:Nat} {c:Value} {x:DataW H×List MemPlace} (ht:P.underlying t=some (.slice e)) (he:P.underlying e=some (.int k)) (hc:P.cellsOf e=1)
  (h:DataW.trod enc P W 0 (λ _=>true) true fuel t [c]=some x) :
  ∃ (a:Option Addr) (n m:Nat) (zs:List Int),c=.slice a n m∧Sl (λ k=>k<W.heap.size) W 1 a n m (zs.map (Value.int k))∧∀ z∈zs,(Lit.int k z).wf=true:=by
 rcases open_ints ht he hc h with ⟨e0,_⟩|⟨p,n,m,zs,e0,_,hl,hm,hz,_,a0,i0⟩
 ·simp only [List.cons.injEq,and_true] at e0;subst e0;exact ⟨none,0,0,[],rfl,Sl.nil_mk _ _ _,sM⟩
 ·simp only [List.cons.injEq,and_true] at e0;subst e0;have j0:zs.length=m:=by simpa using hz
  refine ⟨some p,n,m,zs.take n,rfl,⟨by simp;omega,hl,hm,(λ h=>by cases h),λ hn=>?_⟩,λ z hz=>i0 z (List.mem_of_mem_take hz)⟩
  have f0:0<zs.length:=by
   rcases Nat.eq_zero_or_pos zs.length with h0|h0
   ·exact absurd (by rw [List.eq_nil_of_length_eq_zero h0];simp) hn
   ·exact h0
  have h0:=a0 0 f0;rw [show p.add 0=p from rfl] at h0;have hs:p.spot=none:=World.cell?_spot h0;obtain ⟨b,o,s⟩:=p;simp only at hs;subst hs;refine ⟨rfl,World.block_lt_of_cell? W _ h0,World.block_lt_of_cell? W _ h0,λ j v hj=>?_⟩
  have g0:j<zs.length:=by
   have:=(List.getElem?_eq_some_iff.1 hj).1;simp at this;omega
  have:=a0 j g0;rw [Addr.add_lit] at this;rw [this];simp only [List.getElem?_map,List.getElem?_take] at hj;split at hj
  ·simp [g0] at hj;simp [hj,g0]
  ·simp at hj
end
end Go.Proofs.YtfpadnmdafiddaaGreatDoor
namespace Go.V
open Go Go.RowKit
def ulim:IntKind→Option Nat
 | .u8=>some 256
 | .u16=>some 65536
 | .u32=>some 4294967296
 | .u64=>some 18446744073709551616
 | _=>none
theorem wrap_u {kd:IntKind} {M:Nat} (h:ulim kd=some M) (z:Nat):kd.wrap (z:Int)=((z%M:Nat):Int):=by
 unfold ulim at h;split at h<;>first|(cases h;done)|(cases h;simp [IntKind.wrap,IntKind.bits,IntKind.signed])
theorem eT {kd:IntKind} {M:Nat} (h:ulim kd=some M) {z:Nat} (hz:z<M):kd.wrap (z:Int)=(z:Int):=by
 rw [wrap_u h,Nat.mod_eq_of_lt hz]
theorem ulim_bits {kd:IntKind} {M:Nat} (h:ulim kd=some M):M=2^kd.bits:=by
 unfold ulim at h;split at h<;>first|(cases h;done)|(cases h;simp [IntKind.bits])
def p2:Nat→Option Nat
 | 0=>some 1
 | 1=>some 2
 | 2=>some 4
 | 3=>some 8
 | 4=>some 16
 | 5=>some 32
 | 6=>some 64
 | 7=>some 128
 | 8=>some 256
 | 9=>some 512
 | 10=>some 1024
 | 11=>some 2048
 | 12=>some 4096
 | 13=>some 8192
 | 14=>some 16384
 | 15=>some 32768
 | 16=>some 65536
 | 17=>some 131072
 | 18=>some 262144
 | 19=>some 524288
 | 20=>some 1048576
 | 21=>some 2097152
 | 22=>some 4194304
 | 23=>some 8388608
 | 24=>some 16777216
 | 25=>some 33554432
 | 26=>some 67108864
 | 27=>some 134217728
 | 28=>some 268435456
 | 29=>some 536870912
 | 30=>some 1073741824
 | 31=>some 2147483648
 | 32=>some 4294967296
 | 33=>some 8589934592
 | 34=>some 17179869184
 | 35=>some 34359738368
 | 36=>some 68719476736
 | 37=>some 137438953472
 | 38=>some 274877906944
 | 39=>some 549755813888
 | 40=>some 1099511627776
 | 41=>some 2199023255552
 | 42=>some 4398046511104
 | 43=>some 8796093022208
 | 44=>some 17592186044416
 | 45=>some 35184372088832
 | 46=>some 70368744177664
 | 47=>some 140737488355328
 | 48=>some 281474976710656
 | 49=>some 562949953421312
 | 50=>some 1125899906842624
 | 51=>some 2251799813685248
 | 52=>some 4503599627370496
 | 53=>some 9007199254740992
 | 54=>some 18014398509481984
 | 55=>some 36028797018963968
 | 56=>some 72057594037927936
 | 57=>some 144115188075855872
 | 58=>some 288230376151711744
 | 59=>some 576460752303423488
 | 60=>some 1152921504606846976
 | 61=>some 2305843009213693952
 | 62=>some 4611686018427387904
 | 63=>some 9223372036854775808
 | _=>none
theorem p2_eq {k p:Nat} (h:p2 k=some p):p=2^k∧k<64:=by
 unfold p2 at h;split at h<;>first|(cases h;done)|(cases h;decide)
def m2:Nat→Option Nat
 | 1=>some 2
 | 3=>some 4
 | 7=>some 8
 | 15=>some 16
 | 31=>some 32
 | 63=>some 64
 | 127=>some 128
 | 255=>some 256
 | 511=>some 512
 | 1023=>some 1024
 | 2047=>some 2048
 | 4095=>some 4096
 | 8191=>some 8192
 | 16383=>some 16384
 | 32767=>some 32768
 | 65535=>some 65536
 | 131071=>some 131072
 | 262143=>some 262144
 | 524287=>some 524288
 | 1048575=>some 1048576
 | 2097151=>some 2097152
 | 4194303=>some 4194304
 | 8388607=>some 8388608
 | 16777215=>some 16777216
 | 33554431=>some 33554432
 | 67108863=>some 67108864
 | 134217727=>some 134217728
 | 268435455=>some 268435456
 | 536870911=>some 536870912
 | 1073741823=>some 1073741824
 | 2147483647=>some 2147483648
 | 4294967295=>some 4294967296
 | 8589934591=>some 8589934592
 | 17179869183=>some 17179869184
 | 34359738367=>some 34359738368
 | 68719476735=>some 68719476736
 | 137438953471=>some 137438953472
 | 274877906943=>some 274877906944
 | 549755813887=>some 549755813888
 | 1099511627775=>some 1099511627776
 | 2199023255551=>some 2199023255552
 | 4398046511103=>some 4398046511104
 | 8796093022207=>some 8796093022208
 | 17592186044415=>some 17592186044416
 | 35184372088831=>some 35184372088832
 | 70368744177663=>some 70368744177664
 | 140737488355327=>some 140737488355328
 | 281474976710655=>some 281474976710656
 | 562949953421311=>some 562949953421312
 | 1125899906842623=>some 1125899906842624
 | 2251799813685247=>some 2251799813685248
 | 4503599627370495=>some 4503599627370496
 | 9007199254740991=>some 9007199254740992
 | 18014398509481983=>some 18014398509481984
 | 36028797018963967=>some 36028797018963968
 | 72057594037927935=>some 72057594037927936
 | 144115188075855871=>some 144115188075855872
 | 288230376151711743=>some 288230376151711744
 | 576460752303423487=>some 576460752303423488
 | 1152921504606846975=>some 1152921504606846976
 | 2305843009213693951=>some 2305843009213693952
 | 4611686018427387903=>some 4611686018427387904
 | 9223372036854775807=>some 9223372036854775808
 | 18446744073709551615=>some 18446744073709551616
 | _=>none
theorem m2_eq {c m:Nat} (h:m2 c=some m):m=c+1∧∃ k,m=2^k:=by
 unfold m2 at h;split at h<;>first|(cases h;done)|(cases h;refine ⟨rfl,?_⟩)
 ·exact ⟨1,dM⟩
 ·exact ⟨2,dM⟩
 ·exact ⟨3,dM⟩
 ·exact ⟨4,dM⟩
 ·exact ⟨5,dM⟩
 ·exact ⟨6,dM⟩
 ·exact ⟨7,dM⟩
 ·exact ⟨8,dM⟩
 ·exact ⟨9,dM⟩
 ·exact ⟨10,dM⟩
 ·exact ⟨11,dM⟩
 ·exact ⟨12,dM⟩
 ·exact ⟨13,dM⟩
 ·exact ⟨14,dM⟩
 ·exact ⟨15,dM⟩
 ·exact ⟨16,dM⟩
 ·exact ⟨17,dM⟩
 ·exact ⟨18,dM⟩
 ·exact ⟨19,dM⟩
 ·exact ⟨20,dM⟩
 ·exact ⟨21,dM⟩
 ·exact ⟨22,dM⟩
 ·exact ⟨23,dM⟩
 ·exact ⟨24,dM⟩
 ·exact ⟨25,dM⟩
 ·exact ⟨26,dM⟩
 ·exact ⟨27,dM⟩
 ·exact ⟨28,dM⟩
 ·exact ⟨29,dM⟩
 ·exact ⟨30,dM⟩
 ·exact ⟨31,dM⟩
 ·exact ⟨32,dM⟩
 ·exact ⟨33,dM⟩
 ·exact ⟨34,dM⟩
 ·exact ⟨35,dM⟩
 ·exact ⟨36,dM⟩
 ·exact ⟨37,dM⟩
 ·exact ⟨38,dM⟩
 ·exact ⟨39,dM⟩
 ·exact ⟨40,dM⟩
 ·exact ⟨41,dM⟩
 ·exact ⟨42,dM⟩
 ·exact ⟨43,dM⟩
 ·exact ⟨44,dM⟩
 ·exact ⟨45,dM⟩
 ·exact ⟨46,dM⟩
 ·exact ⟨47,dM⟩
 ·exact ⟨48,dM⟩
 ·exact ⟨49,dM⟩
 ·exact ⟨50,dM⟩
 ·exact ⟨51,dM⟩
 ·exact ⟨52,dM⟩
 ·exact ⟨53,dM⟩
 ·exact ⟨54,dM⟩
 ·exact ⟨55,dM⟩
 ·exact ⟨56,dM⟩
 ·exact ⟨57,dM⟩
 ·exact ⟨58,dM⟩
 ·exact ⟨59,dM⟩
 ·exact ⟨60,dM⟩
 ·exact ⟨61,dM⟩
 ·exact ⟨62,dM⟩
 ·exact ⟨63,dM⟩
 ·exact ⟨64,dM⟩
class Lit (z:Int) (a:outParam Nat):Prop where
 h:z=(a:Int)
instance (m:Nat):Lit (m:Int) m:=⟨rfl⟩
instance (priority:=low) (m:Nat):Lit (no_index (@OfNat.ofNat Int m instOfNat)) (@OfNat.ofNat Nat m (instOfNatNat m)):=⟨rfl⟩
def intTyB (P:Program) (t:TypeId) (k:IntKind):Bool:=match P.underlying t with|some (.int k')=>k'==k|_=>false
class IntTy (P:Program) (t:TypeId) (k:outParam IntKind):Prop where
 h:intTyB P t k=true
theorem IntTy.und {P:Program} {t:TypeId} {k:IntKind} (h:IntTy P t k):P.underlying t=some (.int k):=by
 have h:=h.h;unfold intTyB at h;split at h
 ·rename_i k' hu;rw [hu];simp at h;rw [h]
 ·cases h
section rules
variable [Rn]
variable {P:Program} {n:Nat} {e:dI} {w:World} {Q:dA} {ops:Array Oper} {rest:List Oper} {d:Nat} {ty:TypeId} {pos:String} {aft:Array Edge}
theorem TL.addU {zx zy:Int} {x y:Operand} {kd:IntKind} {M a b:Nat} {t1 t2:TypeId} (hx:val e x=some (.int kd zx)) [ix:Lit zx a] (hy:val e y=some (.int kd zy)) [iy:Lit zy b] (hM:ulim kd=some M) (h:a+b<M) (hd:Nat.blt d n=true)
  (k:TL P n ops rest ((d,.int kd ((a+b:Nat):Int))::e) w Q):TL P n ops (⟨some d,.binOp .add t1 x y t2,ty,pos,aft,none⟩::rest) e w Q :=
 TL.run (λ r hr=>by
  rw [ix.h] at hx;rw [iy.h] at hy
  have:=eT hM h;simp only [Int.natCast_add] at this ⊢
  simp [execOp,binOp,bG,Op.intArith,hr.eval hx,hr.eval hy,this]) hd k
theorem TL.addW {zx zy:Int} {x y:Operand} {kd:IntKind} {M a b:Nat} {t1 t2:TypeId} (hx:val e x=some (.int kd zx)) [ix:Lit zx a] (hy:val e y=some (.int kd zy)) [iy:Lit zy b] (hM:ulim kd=some M) (hd:Nat.blt d n=true)
  (k:TL P n ops rest ((d,.int kd (((a+b)%M:Nat):Int))::e) w Q):TL P n ops (⟨some d,.binOp .add t1 x y t2,ty,pos,aft,none⟩::rest) e w Q :=
 TL.run (λ r hr=>by
  rw [ix.h] at hx;rw [iy.h] at hy
  have:=wrap_u hM (a+b);rw [Int.natCast_add] at this;simp only [execOp,binOp,bG,Op.intArith,hr.eval hx,hr.eval hy]
  simp [this]) hd k
theorem TL.subU {zx zy:Int} {x y:Operand} {kd:IntKind} {M a b:Nat} {t1 t2:TypeId} (hx:val e x=some (.int kd zx)) [ix:Lit zx a] (hy:val e y=some (.int kd zy)) [iy:Lit zy b] (hM:ulim kd=some M) (h:b≤a) (h2:a<M) (hd:Nat.blt d n=true)
  (k:TL P n ops rest ((d,.int kd ((a-b:Nat):Int))::e) w Q):TL P n ops (⟨some d,.binOp .sub t1 x y t2,ty,pos,aft,none⟩::rest) e w Q :=
 TL.run (λ r hr=>by
  rw [ix.h] at hx;rw [iy.h] at hy
  have:=eT hM (show a-b<M by omega);rw [Int.ofNat_sub h] at this ⊢
  simp [execOp,binOp,bG,Op.intArith,hr.eval hx,hr.eval hy,this]) hd k
theorem TL.mulU {zx zy:Int} {x y:Operand} {kd:IntKind} {M a b:Nat} {t1 t2:TypeId} (hx:val e x=some (.int kd zx)) [ix:Lit zx a] (hy:val e y=some (.int kd zy)) [iy:Lit zy b] (hM:ulim kd=some M) (h:a*b<M) (hd:Nat.blt d n=true)
  (k:TL P n ops rest ((d,.int kd ((a*b:Nat):Int))::e) w Q):TL P n ops (⟨some d,.binOp .mul t1 x y t2,ty,pos,aft,none⟩::rest) e w Q :=
 TL.run (λ r hr=>by
  rw [ix.h] at hx;rw [iy.h] at hy
  have:=eT hM h;simp only [Int.natCast_mul] at this ⊢
  simp [execOp,binOp,bG,Op.intArith,hr.eval hx,hr.eval hy,this]) hd k
theorem TL.mulW {zx zy:Int} {x y:Operand} {kd:IntKind} {M a b:Nat} {t1 t2:TypeId} (hx:val e x=some (.int kd zx)) [ix:Lit zx a] (hy:val e y=some (.int kd zy)) [iy:Lit zy b] (hM:ulim kd=some M) (hd:Nat.blt d n=true)
  (k:TL P n ops rest ((d,.int kd ((a*b%M:Nat):Int))::e) w Q):TL P n ops (⟨some d,.binOp .mul t1 x y t2,ty,pos,aft,none⟩::rest) e w Q :=
 TL.run (λ r hr=>by
  rw [ix.h] at hx;rw [iy.h] at hy
  have:=wrap_u hM (a*b);rw [Int.natCast_mul] at this;simp only [execOp,binOp,bG,Op.intArith,hr.eval hx,hr.eval hy]
  simp [this]) hd k
theorem bits_nat {kd:IntKind} {M:Nat} (h:ulim kd=some M) (a:Nat):(BitVec.ofInt kd.bits (a:Int)).toNat=a%M:=by
 rw [ulim_bits h,BitVec.toNat_ofInt];rw [show ((2^kd.bits:Nat):Int)=((2^kd.bits:Nat):Int) from rfl,← Int.natCast_emod,Int.toNat_natCast]
theorem TL.andU {zx zy:Int} {x y:Operand} {kd:IntKind} {M a c m:Nat} {t1 t2:TypeId} (hx:val e x=some (.int kd zx)) [ix:Lit zx a] (hy:val e y=some (.int kd zy)) [iy:Lit zy c] (hM:ulim kd=some M) (hm:m2 c=some m) (ha:a<M) (hc:c<M) (hd:Nat.blt d n=true)
  (k:TL P n ops rest ((d,.int kd ((a%m:Nat):Int))::e) w Q):TL P n ops (⟨some d,.binOp .and t1 x y t2,ty,pos,aft,none⟩::rest) e w Q :=
 TL.run (λ r hr=>by
  rw [ix.h] at hx;rw [iy.h] at hy
  obtain ⟨h1,j,h2⟩:=m2_eq hm;have hc':c=2^j-1:=by omega
  have e1:((BitVec.ofInt kd.bits (a:Int))&&&(BitVec.ofInt kd.bits (c:Int))).toNat=a%m:=by
   rw [BitVec.toNat_and,bits_nat hM,bits_nat hM,Nat.mod_eq_of_lt ha,Nat.mod_eq_of_lt hc,hc',Nat.and_two_pow_sub_one_eq_mod,← h2]
  have e2:=eT hM (show a%m<M from Nat.lt_of_le_of_lt (Nat.mod_le _ _) ha);rw [← e1] at e2
  have hb:binOp .and t1 (.int kd (a:Int)) (.int kd (c:Int))=Pure.pure (.int kd ((a%m:Nat):Int)):=by
   simp only [binOp,Op.intBits,ne_eq,not_true_eq_false,if_false];rw [e2,e1]
  simp only [execOp,bG,hr.eval hx,hr.eval hy,hb]
  rfl) hd k
theorem or_apart {a b m k:Nat} (hm:m=2^k) (ha:a<m) (hb:b%m=0):a|||b=a+b:=by
 subst hm;obtain ⟨q,rfl⟩:=Nat.dvd_of_mod_eq_zero hb;rw [Nat.or_comm,Nat.add_comm];exact (Nat.two_pow_add_eq_or_of_lt ha q).symm
theorem TL.orL {zx zy:Int} {x y:Operand} {kd:IntKind} {M a b q m:Nat} {t1 t2:TypeId} (hx:val e x=some (.int kd zx)) [ix:Lit zx a] (hy:val e y=some (.int kd zy)) [iy:Lit zy b] (hM:ulim kd=some M) (hq:a=q*m%M) (hm:m2 (m-1)=some m) (hb:b<m) (a0:Nat.ble m M=true) (hd:Nat.blt d n=true)
  (k:TL P n ops rest ((d,.int kd ((a+b:Nat):Int))::e) w Q):TL P n ops (⟨some d,.binOp .or t1 x y t2,ty,pos,aft,none⟩::rest) e w Q :=
 TL.run (λ r hr=>by
  rw [ix.h] at hx;rw [iy.h] at hy
  have hmM':=Nat.le_of_ble_eq_true a0;obtain ⟨_,j,hj⟩:=m2_eq hm;have hMp:=ulim_bits hM
  have hdvd:m ∣ M:=by
   rw [hj,hMp];rw [hj,hMp] at hmM'
   exact Nat.pow_dvd_pow 2 ((Nat.pow_le_pow_iff_right dM).1 hmM')
  have h0:a<M:=by rw [hq];exact Nat.mod_lt _ (by rw [hMp];exact Nat.two_pow_pos _)
  have g0:a%m=0:=by rw [hq,Nat.mod_mod_of_dvd _ hdvd];exact Nat.mul_mod_left _ _
  have f0:b<M:=by omega
  have e1:((BitVec.ofInt kd.bits (a:Int))|||(BitVec.ofInt kd.bits (b:Int))).toNat=a+b:=by
   rw [BitVec.toNat_or,bits_nat hM,bits_nat hM,Nat.mod_eq_of_lt h0,Nat.mod_eq_of_lt f0,Nat.or_comm,or_apart hj hb g0,Nat.add_comm]
  have e0:a+b<M:=by
   rw [← e1,ulim_bits hM];exact BitVec.isLt _
  have e2:=eT hM e0;rw [← e1] at e2
  have hb:binOp .or t1 (.int kd (a:Int)) (.int kd (b:Int))=Pure.pure (.int kd ((a+b:Nat):Int)):=by
   simp only [binOp,Op.intBits,ne_eq,not_true_eq_false,if_false];rw [e2,e1]
  simp only [execOp,bG,hr.eval hx,hr.eval hy,hb]
  rfl) hd k
theorem TL.shrU {zx zy:Int} {x y:Operand} {kd ky:IntKind} {M a s p:Nat} {t1 t2:TypeId} (hx:val e x=some (.int kd zx)) [ix:Lit zx a] (hy:val e y=some (.int ky zy)) [iy:Lit zy s] (hM:ulim kd=some M) (hp:p2 s=some p) (hs:Nat.ble s kd.bits=true) (hd:Nat.blt d n=true)
  (k:TL P n ops rest ((d,.int kd ((a / p:Nat):Int))::e) w Q):TL P n ops (⟨some d,.binOp .shr t1 x y t2,ty,pos,aft,none⟩::rest) e w Q :=
 TL.run (λ r hr=>by
  rw [ix.h] at hx;rw [iy.h] at hy
  obtain ⟨h1,h2⟩:=p2_eq hp;have h3:min s kd.bits=s:=Nat.min_eq_left (Nat.le_of_ble_eq_true hs);have h4:¬ ((s:Int)<0):=by omega
  have e1:(a:Int).fdiv (2^s)=((a / p:Nat):Int):=by
   rw [Int.fdiv_eq_ediv_of_nonneg _ (by exact_mod_cast Nat.zero_le (2^s)),h1];simp
  simp only [execOp,binOp,bG,Op.shift,hr.eval hx,hr.eval hy]
  simp [h3,h4,e1]) hd k
theorem TL.shlW {zx zy:Int} {x y:Operand} {kd ky:IntKind} {M a s p:Nat} {t1 t2:TypeId} (hx:val e x=some (.int kd zx)) [ix:Lit zx a] (hy:val e y=some (.int ky zy)) [iy:Lit zy s] (hM:ulim kd=some M) (hp:p2 s=some p) (hs:Nat.ble s kd.bits=true) (hd:Nat.blt d n=true)
  (k:TL P n ops rest ((d,.int kd ((a*p%M:Nat):Int))::e) w Q):TL P n ops (⟨some d,.binOp .shl t1 x y t2,ty,pos,aft,none⟩::rest) e w Q :=
 TL.run (λ r hr=>by
  rw [ix.h] at hx;rw [iy.h] at hy
  obtain ⟨h1,h2⟩:=p2_eq hp;have h3:min s kd.bits=s:=Nat.min_eq_left (Nat.le_of_ble_eq_true hs);have h4:¬ ((s:Int)<0):=by omega
  have e1:(a:Int)*2^s=((a*p:Nat):Int):=by rw [h1];simp
  have e2:=wrap_u hM (a*p);rw [← e1] at e2;simp only [execOp,binOp,bG,Op.shift,hr.eval hx,hr.eval hy]
  simp [h3,h4,e2]) hd k
theorem jB {s t:TypeId} {k1 k2 kd:IntKind} (hs:IntTy P s k1) (ht:IntTy P t k2) (z:Int) (w:World):(convert s t (.int kd z)).run P w=.ok (.int k2 (k2.wrap z)) w:=by
 simp [convert,underlying,hs.und,ht.und,Conv.intToInt]
theorem TL.convU {zx:Int} {s t:TypeId} {x:Operand} {k1 k2 kd:IntKind} {a M:Nat} [hs:IntTy P s k1] [ht:IntTy P t k2] (hx:val e x=some (.int kd zx)) [ix:Lit zx a] (hM:ulim k2=some M) (h:a<M) (hd:Nat.blt d n=true)
  (k:TL P n ops rest ((d,.int k2 (a:Int))::e) w Q):TL P n ops (⟨some d,.convert s t x,ty,pos,aft,none⟩::rest) e w Q :=
 TL.run (λ r hr=>by
  rw [ix.h] at hx
  simp [execOp,hr.eval hx,jB hs ht,eT hM h]) hd k
theorem iC {zx:Int} {s t:TypeId} {x:Operand} {k1 k2 kd:IntKind} {a M:Nat} [hs:IntTy P s k1] [ht:IntTy P t k2] (hx:val e x=some (.int kd zx)) [ix:Lit zx a] (hM:ulim k2=some M) (hd:Nat.blt d n=true)
  (k:TL P n ops rest ((d,.int k2 ((a%M:Nat):Int))::e) w Q):TL P n ops (⟨some d,.convert s t x,ty,pos,aft,none⟩::rest) e w Q :=
 TL.run (λ r hr=>by
  rw [ix.h] at hx
  simp only [execOp,hr.eval hx];simp only [Sem.run_bind,jB hs ht,Result.andThen_ok,wrap_u hM];rfl) hd k
theorem TL.nilCheck {x:Operand} {p:Addr} (hx:val e x=some (.pointer (some p))) (hd:Nat.blt d n=true)
  (k:TL P n ops rest ((d,.pointer (some p))::e) w Q):TL P n ops (⟨some d,.nilCheck x,ty,pos,aft,none⟩::rest) e w Q :=
 TL.run (λ r hr=>by simp [execOp,hr.eval hx]) hd k
theorem ArrTy.und {t len a0 size:Nat} (h:ArrTy P t len a0 size):P.underlying t=some (.array len a0)∧∃ i,P.info? a0=some i∧i.size=size:=by
 have h:=h.h;unfold arrB at h;split at h
 ·rename_i l el hu;simp only [Bool.and_eq_true,beq_iff_eq] at h;obtain ⟨⟨rfl,rfl⟩,h2⟩:=h;refine ⟨hu,?_⟩
  cases hi:P.info? el with
  | none=>rw [hi] at h2;cases h2
  | some i=>rw [hi] at h2;exact ⟨i,rfl,by simpa using h2⟩
 ·cases h
theorem ArrTy.size {t len a0 size:Nat} (h:ArrTy P t len a0 size) (w:World):(sizeOf a0).run P w=.ok size w:=by
 obtain ⟨_,i,hi,hs⟩:=h.und;simp [sizeOf,typeInfo,hi,hs]
theorem TL.indexArr {t len a0 size:Nat} {x i:Operand} {b o j:Nat} {kd:IntKind} {z:Int} [ht:ArrTy P t len a0 size] (hx:val e x=some (.pointer (some ⟨b,o,none⟩))) (hi:val e i=some (.int kd z))
  [iz:Lit z j] (hj:j<len) {o':Nat} (ho:o+j*size=o') (hd:Nat.blt d n=true)
  (k:TL P n ops rest ((d,.pointer (some ⟨b,o',none⟩))::e) w Q):TL P n ops (⟨some d,.indexAddr t x i,ty,pos,aft,none⟩::rest) e w Q :=
 TL.run (λ r hr=>by
  subst ho;rw [iz.h] at hi
  simp [execOp,hr.eval hx,hr.eval hi,Instr.indexAt,Instr.sureAddr,asIntOf,underlying,ht.und.1,ht.size,hj,Addr.add_lit]) hd k
theorem TL.indexAt {t a0 size bytes:Nat} {x i:Operand} {b o m c j:Nat} {kd:IntKind} {z:Int} [ht:SliceTy P t a0 size bytes] (hx:val e x=some (.slice (some ⟨b,o,none⟩) m c)) (hi:val e i=some (.int kd z))
  [iz:Lit z j] (hj:j<m) {o':Nat} (ho:o+j*size=o') (hd:Nat.blt d n=true)
  (k:TL P n ops rest ((d,.pointer (some ⟨b,o',none⟩))::e) w Q):TL P n ops (⟨some d,.indexAddr t x i,ty,pos,aft,none⟩::rest) e w Q :=
 TL.run (λ r hr=>by
  subst ho;rw [iz.h] at hi
  simp [execOp,hr.eval hx,hr.eval hi,Instr.indexAt,asIntOf,underlying,ht.und,ht.size,Nat.not_le.2 hj,hj,Addr.add_lit]) hd k
theorem mP {x:Operand} {k:IntKind} {z:Int} {j a0:Nat} (h:val e x=some (.int k z)) [i:Lit z j]:bnd e (some x) j a0:=⟨k,z,h,i.h⟩
theorem gI {t len a0 size:Nat} {x:Operand} {lo hi:Option Operand} {b o l h:Nat} [ht:ArrTy P t len a0 size]
  (hx:val e x=some (.pointer (some ⟨b,o,none⟩))) (hl:bnd e lo l 0) (hh:bnd e hi h len) (b1:l≤h) (b2:h≤len) (b3:l<len) {o':Nat} (ho:o+l*size=o') (hd:Nat.blt d n=true)
  (k:TL P n ops rest ((d,.slice (some ⟨b,o',none⟩) (h-l) (len-l))::e) w Q):TL P n ops (⟨some d,.slice t x lo hi none,ty,pos,aft,none⟩::rest) e w Q:=by
 have f0:∀ r,Fits n e r→(Instr.sliceBounds false len len (lo.map r.eval) (hi.map r.eval) none).run P w=.ok (l,h,len) w:=by
  intro r hr
  cases lo with
  | none =>
   simp only [bnd] at hl;subst hl
   cases hi with
   | none=>simp only [bnd] at hh;subst hh;simp [Instr.sliceBounds]
   | some y=>obtain ⟨k2,z2,v2,e2⟩:=hh;simp [Instr.sliceBounds,hr.eval v2,cR e2 b2]
  | some x1 =>
   obtain ⟨k1,z1,v1,e1⟩:=hl
   cases hi with
   | none=>simp only [bnd] at hh;subst hh;simp [Instr.sliceBounds,hr.eval v1,cR e1 b1]
   | some y=>obtain ⟨k2,z2,v2,e2⟩:=hh;simp [Instr.sliceBounds,hr.eval v1,hr.eval v2,cR e2 b2,cR e1 b1]
 have e0:¬ (len=l):=by omega
 subst ho;exact TL.run (λ r hr=>by simp [execOp,hr.eval hx,Instr.sliceAt,Instr.sureAddr,underlying,ht.und.1,f0 r hr,ht.size,e0,Addr.add_lit]) hd k
theorem mU {t len e0 size:Nat} {z:Value} {parts:List (Nat×Operand)} {vs:List (Nat×Value)} {cs:List Value} [hz:Zero P t z] [ht:ArrTy P t len e0 size]
  (hx:partsV (val e) parts=some vs) (hf:fillV ((List.range len).map λ i=>(i*size,size)) z.cells.toList vs=some cs) (hd:Nat.blt d n=true)
  (k:TL P n ops rest ((d,.agg cs.toArray)::e) w Q):TL P n ops (⟨some d,.build t parts.toArray,ty,pos,aft,none⟩::rest) e w Q:=by
 refine TL.run (λ r hr=>?_) hd k
 have f0:parts.toArray.map (λ (i,x)=>(i,r.eval x))=vs.toArray:=by
  simp [mJ hr parts vs hx]
 have a0:Instr.fill (λ i=>some (i*size,size)) z.cells vs=some cs.toArray:=fill_eq (pl:=(λ i=>some (i*size,size))) (by intro i x h;rw [List.getElem?_map] at h;cases hr:(List.range len)[i]? with
   | none=>rw [hr] at h;cases h
   | some j=>rw [hr] at h;have:=(List.getElem?_eq_some_iff.1 hr).2;simp at this;subst this;exact h) vs _ cs hf
 simp only [execOp,f0,Instr.build,hz.run,underlying,ht.und.1,Sem.run_bind,run_program,Result.andThen_ok,Sem.run_pure,ht.size];simp only [Result.andThen_ok,a0,Sem.run_pure]
theorem TL.indexV {t len a0 size:Nat} {x i:Operand} {j:Nat} {kd:IntKind} {z:Int} {cs:List Value} {v:Value} [ht:ArrTy P t len a0 size] [h1:One P a0] (hx:val e x=some (.agg cs.toArray)) (hi:val e i=some (.int kd z))
  [iz:Lit z j] (hj:j<len) (hs:size=1) (hv:cs[j]? = some v) (hd:Nat.blt d n=true)
  (k:TL P n ops rest ((d,v)::e) w Q):TL P n ops (⟨some d,.index t x i,ty,pos,aft,none⟩::rest) e w Q :=
 TL.run (λ r hr=>by
  rw [iz.h] at hi;subst hs
  simp [execOp,hr.eval hx,hr.eval hi,Instr.index,asIntOf,underlying,ht.und.1,ht.size,hj,part,h1.agg,hv]) hd k
def kE:List Value→List Value→Prop
 | [],[]=>True
 | .int k a::xs,.int k' b::ys=>k=k'∧kE xs ys
 | _,_=>False
theorem sameInts_at:∀ {xs ys:List Value},kE xs ys→xs.length=ys.length∧∀ i,i<xs.length→∃ k a b,xs[i]? = some (.int k a)∧ys[i]? = some (.int k b)
 | [],[],_=>⟨rfl,λ i h=>absurd h (Nat.not_lt_zero _)⟩
 | [],_::_,h=>by simp [kE] at h
 | x::_,[],h=>by cases x<;>simp [kE] at h
 | x::xs,y::ys,h=>by
  cases x<;>cases y<;>simp only [kE] at h
  rename_i k a k' b;obtain ⟨rfl,h2⟩:=h;obtain ⟨h3,h4⟩:=sameInts_at h2;refine ⟨by simp [h3],λ i hi=>?_⟩
  cases i with
  | zero=>exact ⟨k,a,b,sM⟩
  | succ i=>simpa using h4 i (by simpa using hi)
theorem run_eqArr {t len a0 kd:_} {size:Nat} (ht:ArrTy P t len a0 size) (hs:size=1) (he:IntTy P a0 kd) {xs ys:List Value} (e0:kE xs ys) (hl:xs.length=len) {c:Bool} (hc:c=true↔xs=ys) (dp:Nat) (w:World) :
  (Op.equalIn (dp+2) t (.agg xs.toArray) (.agg ys.toArray)).run P w=.ok c w:=by
 classical
 obtain ⟨i0,k0⟩:=sameInts_at e0;subst hs
 have j0:c=((List.range len).all λ i=>decide (xs[i]? = ys[i]?)):=by
  rw [Bool.eq_iff_iff,hc];simp only [List.all_eq_true,List.mem_range,decide_eq_true_eq];constructor
  ·rintro rfl _ _;rfl
  ·intro h;apply List.ext_getElem?;intro i;by_cases hi:i<len
   ·exact h i hi
   ·rw [List.getElem?_eq_none oM,List.getElem?_eq_none oM]
 rw [j0,List.range_eq_range',Op.equalIn];simp only [Sem.run_bind,run_underlying ht.und.1,Result.andThen_ok,ht.size,Std.Legacy.Range.forIn_eq_forIn_range',Std.Legacy.Range.size,Nat.sub_zero,Nat.add_sub_cancel,Nat.div_one];have f0:∀ i∈List.range' 0 len 1,i<len:=λ i hi=>by simpa using (List.mem_range'_1.1 hi).2
 generalize List.range' 0 len 1=l at f0 ⊢
 induction l with
 | nil=>simp
 | cons i l ih =>
  have hi:i<len:=f0 i sM;obtain ⟨k,a,b,h0,g0⟩:=k0 i oM
  have px:(part a0 xs.toArray (i*1)).run P w=.ok (.int k a) w:=by
   simp [part,isAgg,run_underlying he.und,h0]
  have py:(part a0 ys.toArray (i*1)).run P w=.ok (.int k b) w:=by
   simp [part,isAgg,run_underlying he.und,g0]
  have pe:(Op.equalIn (dp+1) a0 (.int k a) (.int k b)).run P w=.ok (decide (xs[i]? = ys[i]?)) w:=by
   rw [run_equalIn_int w dp a0 k kd a b he.und,h0,g0];congr 1
   rw [Bool.eq_iff_iff];simp
  simp only [List.forIn_cons,Sem.run_bind,px,py,pe,Result.andThen_ok,List.all_cons];cases hb:(decide (xs[i]? = ys[i]?))
  ·simp
  ·simp only [Bool.not_true,Bool.false_eq_true,if_false,Sem.run_pure,Result.andThen_ok,Bool.true_and];exact ih λ j hj=>f0 j (by simp [hj])
theorem noGuard {t len a0 size:Nat} {kd:IntKind} (ht:ArrTy P t len a0 size) (he:IntTy P a0 kd):P.eqGuardType P.depth t=false:=by
 have:P.depth=(2*(P.types.size+Made.depth))+2:=rfl;rw [this];simp [Program.eqGuardType,ht.und.1,he.und]
theorem run_guardArr {op:BinOp} {t len a0 size:Nat} {kd:IntKind} (ht:ArrTy P t len a0 size) (he:IntTy P a0 kd) (x y:Operand) (a b:Array Value) (w:World):(eqGuard op t x y (.agg a) (.agg b)).run P w=.ok () w:=by
 unfold eqGuard;split<;>simp [noGuard ht he]
theorem TL.neArr {t t2 len e0 size:Nat} {x y:Operand} {kd:IntKind} {xs ys:List Value} [ht:ArrTy P t len e0 size] [he:IntTy P e0 kd] (c:Bool) (hx:val e x=some (.agg xs.toArray)) (hy:val e y=some (.agg ys.toArray)) (hs:size=1)
  (a0:kE xs ys) (hl:xs.length=len) (hc:c=true↔xs=ys) (hd:Nat.blt d n=true)
  (k:TL P n ops rest ((d,.bool (!c))::e) w Q):TL P n ops (⟨some d,.binOp .neq t x y t2,ty,pos,aft,none⟩::rest) e w Q :=
 TL.run (λ r hr=>by
  simp only [execOp,hr.eval hx,hr.eval hy,Sem.run_bind,run_guardArr ht he,Result.andThen_ok]
  simp [binOp,Op.equal,Op.maxDepth,run_eqArr ht hs he a0 hl hc 9998]) hd k
theorem putAt_past:∀ (vs a0 cs:List Value),vs.length=cs.length→iJ (a0++cs) a0.length vs=a0++vs
 | [],a0,cs,h=>by
  have:cs=[]:=List.eq_nil_of_length_eq_zero (by simpa using h.symm);subst this;rfl
 | v::vs,a0,[],h=>by simp at h
 | v::vs,a0,c::cs,h=>by
  have:=putAt_past vs (a0++[v]) cs (by simpa using h);simp only [iJ];rw [List.set_append_right _ _ (Nat.le_refl _),Nat.sub_self,List.set_cons_zero];simpa using this
theorem putAt_whole {vs cs:List Value} (h:vs.length=cs.length):iJ cs 0 vs=vs:=putAt_past vs [] cs h
theorem aW {t bt:TypeId} {m b:Nat} {cs:List Value} [ht:Agg P t m] (hb:Blk w b bt cs) (hl:Nat.beq cs.length m=true):(loadVar t ⟨b,0,none⟩).run P w=.ok (.agg cs.toArray) w :=
 iS ht (Nat.eq_of_beq_eq_true hl) (hb.cells (by rw [List.drop_zero];exact List.take_of_length_le (Nat.le_of_eq (Nat.eq_of_beq_eq_true hl))))
theorem iP {t bt:TypeId} {m b:Nat} {x:Operand} {cs:List Value} [ht:Agg P t m] (hx:val e x=some (.pointer (some ⟨b,0,none⟩))) (hb:Blk w b bt cs) (hl:Nat.beq cs.length m=true)
  (hd:Nat.blt d n=true) (k:TL P n ops rest ((d,.agg cs.toArray)::e) w Q):TL P n ops (⟨some d,.load t x,ty,pos,aft,none⟩::rest) e w Q :=
 TL.run (λ a ha=>by simp [execOp,Instr.loadAt,ha.eval hx,Instr.sureAddr,aW (P:=P) hb hl]) hd k
theorem eG {t bt:TypeId} {m:Nat} {x y:Operand} {b:Nat} {vs cs:List Value} [ht:Agg P t m] (hx:val e x=some (.pointer (some ⟨b,0,none⟩))) (hy:val e y=some (.agg vs.toArray)) (hb:Blk w b bt cs)
  (hm:Nat.beq vs.length m=true) (hl:Nat.beq cs.length m=true) (h1:vs.all Value.oneCell'=true)
  (k:∀ w',Upd b w w'→Blk w' b bt vs→w'.heap.size=w.heap.size→TL P n ops rest e w' Q):TL P n ops (⟨none,.store t x y,ty,pos,aft,none⟩::rest) e w Q:=by
 have e1:=Nat.eq_of_beq_eq_true hm;have e2:=Nat.eq_of_beq_eq_true hl;obtain ⟨w',hr,hu,a0⟩:=run_storeVar_agg (P:=P) ht hb hm (Nat.ble_eq_true_of_le oM) h1 (putAt_whole oM);exact TL.run_skip (λ a ha=>by simp [execOp,Instr.storeAt,ha.eval hx,ha.eval hy,Instr.sureAddr,hr]) (k w' hu a0 hu.size)
end rules
section kinds
variable [Rn]
variable {P:Program} {n:Nat} {e:dI} {w:World} {Q:dA} {ops:Array Oper} {rest:List Oper} {d:Option Nat} {ty:TypeId} {pos:String} {aft:Array Edge} {t1 t2:Nat} {x y:Operand} {l1 l2 l3:Option Operand} {o:BinOp} {c:Call} {ps:Array (Nat×Operand)}
theorem TL.isMove (h:TL P n ops (⟨d,(.move x),ty,pos,aft,none⟩::rest) e w Q):TL P n ops (⟨d,(.move x),ty,pos,aft,none⟩::rest) e w Q:=h
theorem TL.isAsg (h:TL P n ops (⟨d,(.assign x),ty,pos,aft,none⟩::rest) e w Q):TL P n ops (⟨d,(.assign x),ty,pos,aft,none⟩::rest) e w Q:=h
theorem nT (h:TL P n ops (⟨d,(.binOp .add t1 x y t2),ty,pos,aft,none⟩::rest) e w Q):TL P n ops (⟨d,(.binOp .add t1 x y t2),ty,pos,aft,none⟩::rest) e w Q:=h
theorem iQ (h:TL P n ops (⟨d,(.binOp .sub t1 x y t2),ty,pos,aft,none⟩::rest) e w Q):TL P n ops (⟨d,(.binOp .sub t1 x y t2),ty,pos,aft,none⟩::rest) e w Q:=h
theorem eM (h:TL P n ops (⟨d,(.binOp .mul t1 x y t2),ty,pos,aft,none⟩::rest) e w Q):TL P n ops (⟨d,(.binOp .mul t1 x y t2),ty,pos,aft,none⟩::rest) e w Q:=h
theorem TL.isAnd (h:TL P n ops (⟨d,(.binOp .and t1 x y t2),ty,pos,aft,none⟩::rest) e w Q):TL P n ops (⟨d,(.binOp .and t1 x y t2),ty,pos,aft,none⟩::rest) e w Q:=h
theorem TL.isOr (h:TL P n ops (⟨d,(.binOp .or t1 x y t2),ty,pos,aft,none⟩::rest) e w Q):TL P n ops (⟨d,(.binOp .or t1 x y t2),ty,pos,aft,none⟩::rest) e w Q:=h
theorem jR (h:TL P n ops (⟨d,(.binOp .shl t1 x y t2),ty,pos,aft,none⟩::rest) e w Q):TL P n ops (⟨d,(.binOp .shl t1 x y t2),ty,pos,aft,none⟩::rest) e w Q:=h
theorem eS (h:TL P n ops (⟨d,(.binOp .shr t1 x y t2),ty,pos,aft,none⟩::rest) e w Q):TL P n ops (⟨d,(.binOp .shr t1 x y t2),ty,pos,aft,none⟩::rest) e w Q:=h
theorem mE (h:TL P n ops (⟨d,(.binOp o t1 x y t2),ty,pos,aft,none⟩::rest) e w Q):TL P n ops (⟨d,(.binOp o t1 x y t2),ty,pos,aft,none⟩::rest) e w Q:=h
theorem bM (h:TL P n ops (⟨d,(.fieldAddr t1 x t2),ty,pos,aft,none⟩::rest) e w Q):TL P n ops (⟨d,(.fieldAddr t1 x t2),ty,pos,aft,none⟩::rest) e w Q:=h
theorem aI (h:TL P n ops (⟨d,(.indexAddr t1 x y),ty,pos,aft,none⟩::rest) e w Q):TL P n ops (⟨d,(.indexAddr t1 x y),ty,pos,aft,none⟩::rest) e w Q:=h
theorem aQ (h:TL P n ops (⟨d,(.load t1 x),ty,pos,aft,none⟩::rest) e w Q):TL P n ops (⟨d,(.load t1 x),ty,pos,aft,none⟩::rest) e w Q:=h
theorem bZ (h:TL P n ops (⟨d,(.store t1 x y),ty,pos,aft,none⟩::rest) e w Q):TL P n ops (⟨d,(.store t1 x y),ty,pos,aft,none⟩::rest) e w Q:=h
theorem TL.isBox (h:TL P n ops (⟨d,(.box t1 x),ty,pos,aft,none⟩::rest) e w Q):TL P n ops (⟨d,(.box t1 x),ty,pos,aft,none⟩::rest) e w Q:=h
theorem fI (h:TL P n ops (⟨d,(.alloc t1),ty,pos,aft,none⟩::rest) e w Q):TL P n ops (⟨d,(.alloc t1),ty,pos,aft,none⟩::rest) e w Q:=h
theorem eA (h:TL P n ops (⟨d,(.convert t1 t2 x),ty,pos,aft,none⟩::rest) e w Q):TL P n ops (⟨d,(.convert t1 t2 x),ty,pos,aft,none⟩::rest) e w Q:=h
theorem cL (h:TL P n ops (⟨d,(.slice t1 x l1 l2 l3),ty,pos,aft,none⟩::rest) e w Q):TL P n ops (⟨d,(.slice t1 x l1 l2 l3),ty,pos,aft,none⟩::rest) e w Q:=h
theorem TL.isBuild (h:TL P n ops (⟨d,(.build t1 ps),ty,pos,aft,none⟩::rest) e w Q):TL P n ops (⟨d,(.build t1 ps),ty,pos,aft,none⟩::rest) e w Q:=h
theorem TL.isNilC (h:TL P n ops (⟨d,(.nilCheck x),ty,pos,aft,none⟩::rest) e w Q):TL P n ops (⟨d,(.nilCheck x),ty,pos,aft,none⟩::rest) e w Q:=h
theorem eU (h:TL P n ops (⟨d,(.call c),ty,pos,aft,none⟩::rest) e w Q):TL P n ops (⟨d,(.call c),ty,pos,aft,none⟩::rest) e w Q:=h
theorem TL.isBuildS (h:TL P n ops (⟨d,(.buildSlice t1 t2 ps),ty,pos,aft,none⟩::rest) e w Q):TL P n ops (⟨d,(.buildSlice t1 t2 ps),ty,pos,aft,none⟩::rest) e w Q:=h
theorem TL.isGuard {op:Op} {g:Nat×Bool} (h:TL P n ops (⟨d,op,ty,pos,aft,some g⟩::rest) e w Q):TL P n ops (⟨d,op,ty,pos,aft,some g⟩::rest) e w Q:=h
end kinds
theorem yB {p:Prop} (h:p:=by (repeat (first|assumption|(apply Blk.grow;assumption)|(apply Blk.upd;assumption;omega)))):p:=h
theorem yM {p:Prop} (h:p:=by (first|assumption|exact Blk.cell yB (by exact rfl)|(repeat (first|assumption|(apply cell_grow;assumption)|(apply cell_upd;assumption;(first|omega|(simp only [];omega))))))):p:=h
theorem yG {p:Prop} (h:p:=by (repeat (first|assumption|exact Below.refl _ _|exact Grow.refl _|refine grow_trans (by assumption) ?_|refine aH (by assumption) oM ?_|refine kB (by assumption) oM ?_|refine below_upd (by assumption) oM ?_))):p:=h
theorem yD {p:Prop} (h:p:=by (first|assumption|(simp only [decide_eq_true_eq,decide_eq_false_iff_not,beq_iff_eq,beq_eq_false_iff_ne,bne_iff_ne,bne_eq_false_iff_eq,ne_eq,gt_iff_lt,ge_iff_le,Bool.not_eq_true',Bool.not_eq_false',Bool.not_true,Bool.not_false];(first|done|omega)))):p:=h
theorem yI {p:Nat→World→Prop} (h:∀ b w,p b w):∀ b w,p b w:=h
theorem yJ {p:World→Prop} (h:∀ w,p w):∀ w,p w:=h
structure Wr (p:Prop):Prop where
 h:p
theorem yA {A G:Prop} (k:A) (h:Wr A→G:=by (intro k;(first|(refine TL.isGuard ?_;first|refine TL.guard_skip rfl rfl rfl ?_|refine eH rfl rfl rfl ?_|refine TL.guard_yes rfl rfl yD rfl ?_|refine TL.guard_no rfl rfl yD rfl ?_)|(refine TL.isMove ?_;refine TL.pure rfl rfl ?_)|(refine TL.isAsg ?_;refine TL.pure rfl rfl ?_)|(refine aQ ?_;first|refine aS rfl yM rfl ?_|refine iP rfl yB (by exact rfl) rfl ?_|refine TL.loadN rfl yB (by exact rfl) (by exact rfl) rfl ?_)|(refine aI ?_;first|refine TL.indexArr rfl rfl oM rfl rfl ?_|refine TL.indexAt rfl rfl oM rfl rfl ?_)|refine TL.fieldAddr rfl rfl ?_|(refine nT ?_;first|refine TL.addI rfl rfl oM oM rfl ?_|refine TL.addU rfl rfl rfl oM rfl ?_|refine TL.addW rfl rfl rfl rfl ?_|refine TL.pure rfl rfl ?_)|(refine iQ ?_;first|refine TL.subI rfl rfl oM oM rfl ?_|refine TL.subU rfl rfl rfl oM oM rfl ?_|refine TL.pure rfl rfl ?_)|(refine eM ?_;first|refine TL.mulI rfl rfl oM oM rfl ?_|refine TL.mulU rfl rfl rfl oM rfl ?_|refine TL.mulW rfl rfl rfl rfl ?_|refine TL.pure rfl rfl ?_)|(refine TL.isAnd ?_;refine TL.andU rfl rfl rfl rfl oM oM rfl ?_)|refine TL.nil ?_|refine eP ?_|refine T.seq ?_|refine nU ?_|refine T.block ?_|refine blockQ_normal ?_|(refine TL.isOr ?_;first|refine TL.orM rfl rfl rfl rfl rfl oM oM rfl rfl ?_|refine TL.orMW rfl rfl rfl rfl rfl oM rfl rfl ?_|refine TL.orL rfl rfl rfl rfl rfl oM rfl rfl ?_)|(refine jR ?_;first|refine TL.shlU rfl rfl rfl rfl rfl oM rfl ?_|refine TL.shlW rfl rfl rfl rfl rfl rfl ?_)|refine TL.shrU rfl rfl rfl rfl rfl rfl ?_|(refine mE ?_;first|refine TL.pure rfl rfl ?_|refine TL.eqNil rfl rfl rfl ?_|refine TL.neNil rfl rfl rfl ?_)|(refine eA ?_;first|refine TL.convU rfl rfl oM rfl ?_|refine TL.convI rfl oM oM rfl ?_|refine iC rfl rfl rfl ?_)|(refine bZ ?_;first|refine dR rfl rfl yB (by exact rfl) (by exact rfl) (by exact rfl) ?_|refine eG rfl rfl yB (by exact rfl) (by exact rfl) (by exact rfl) ?_|refine TL.storeN rfl rfl yB (by exact rfl) (by exact rfl) (by exact rfl) (by exact rfl) ?_)|refine TL.box rfl rfl rfl ?_|refine TL.alloc rfl rfl ?_|(refine cL ?_;first|refine gI rfl (mP rfl) (mP rfl) oM oM oM rfl rfl ?_|refine gI rfl (aP _) (mP rfl) oM oM oM rfl rfl ?_|refine gI rfl (mP rfl) (aP _) oM oM oM rfl rfl ?_|refine gI rfl (aP _) (aP _) oM oM oM rfl rfl ?_)|(refine TL.isBuild ?_;first|refine TL.build rfl rfl rfl ?_|refine mU rfl rfl rfl ?_)|refine TL.nilCheck rfl rfl ?_|refine TL.buildSlice0 rfl ?_|(refine eU ?_;first|refine TL.len_slice rfl rfl ?_|refine TL.min2 rfl rfl rfl ?_)|refine T.cond_true rfl ?_|refine T.cond_false rfl ?_|refine T.cond_yes rfl yD ?_|refine T.cond_no rfl yD ?_|refine T.ret ?_|refine T.skip ?_|refine T.exit ?_|refine thenQ_ret ?_|refine thenQ_exit ?_|refine blockQ_hit ?_|refine blockQ_miss rfl ?_|refine blockQ_ret ?_|refine loopQ_ret ?_|refine loopQ_exit ?_|refine TL.pure rfl rfl ?_|refine uptoQ_normal ?_|refine upto_seq ?_|refine upto_end ?_|refine uptoQ_ret ?_|refine uptoQ_exit ?_);exact k.h)):G:=h ⟨k⟩
theorem dD {A G:Prop} (k:A) (h:Wr A→G:=by (intro k;repeat1' (refine yA ?_);exact k.h)):G:=h ⟨k⟩
theorem yC {A G:Prop} (k:A) (h:Wr A→G:=by (intro k;(first|(refine TL.isGuard ?_;first|refine TL.guard_skip rfl rfl rfl ?_|refine eH rfl rfl rfl ?_|refine TL.guard_yes rfl rfl yD rfl ?_|refine TL.guard_no rfl rfl yD rfl ?_)|(refine TL.isMove ?_;refine TL.pure rfl rfl ?_)|(refine TL.isAsg ?_;refine TL.pure rfl rfl ?_)|(refine aQ ?_;first|refine aS rfl yM rfl ?_|refine iP rfl yB (by exact rfl) rfl ?_|refine TL.loadN rfl yB (by exact rfl) (by exact rfl) rfl ?_)|(refine aI ?_;first|refine TL.indexA1 rfl rfl (by first|omega|assumption) rfl ?_|refine TL.indexArr rfl rfl oM rfl rfl ?_|refine TL.indexAt rfl rfl oM rfl rfl ?_)|refine TL.fieldAddr rfl rfl ?_|(refine nT ?_;first|refine TL.addN rfl rfl (by first|omega|assumption) rfl ?_|refine TL.addI rfl rfl oM oM rfl ?_|refine TL.addU rfl rfl rfl oM rfl ?_|refine TL.addW rfl rfl rfl rfl ?_|refine TL.pure rfl rfl ?_)|(refine iQ ?_;first|refine TL.subN rfl rfl (by first|omega|assumption) (by first|omega|assumption) rfl ?_|refine TL.subI rfl rfl oM oM rfl ?_|refine TL.subU rfl rfl rfl oM oM rfl ?_|refine TL.pure rfl rfl ?_)|(refine eM ?_;first|refine TL.mulN rfl rfl (by first|omega|assumption) rfl ?_|refine TL.mulI rfl rfl oM oM rfl ?_|refine TL.mulU rfl rfl rfl oM rfl ?_|refine TL.mulW rfl rfl rfl rfl ?_|refine TL.pure rfl rfl ?_)|(refine TL.isAnd ?_;refine TL.andU rfl rfl rfl rfl oM oM rfl ?_)|refine TL.nil ?_|refine eP ?_|refine T.seq ?_|refine nU ?_|refine T.block ?_|refine blockQ_normal ?_|(refine TL.isOr ?_;first|refine TL.orM rfl rfl rfl rfl rfl oM oM rfl rfl ?_|refine TL.orMW rfl rfl rfl rfl rfl oM rfl rfl ?_|refine TL.orL rfl rfl rfl rfl rfl oM rfl rfl ?_)|(refine jR ?_;first|refine TL.shlN rfl rfl (by first|omega|assumption) (by first|omega|assumption) rfl ?_|refine TL.shlS rfl rfl rfl (by first|(simp only [IntKind.bits];omega)|decide) (by first|omega|assumption) rfl ?_|refine TL.shlU rfl rfl rfl rfl rfl oM rfl ?_|refine TL.shlW rfl rfl rfl rfl rfl rfl ?_)|(refine eS ?_;first|refine TL.shrS rfl rfl (by first|(simp only [IntKind.bits];omega)|decide) rfl ?_|refine TL.shrU rfl rfl rfl rfl rfl rfl ?_)|(refine TL.isRem ?_;refine TL.remU rfl rfl oM rfl ?_)|(refine TL.isQuo ?_;first|refine TL.quoN rfl rfl oM (by first|omega|assumption) rfl ?_|refine TL.quoU rfl rfl rfl oM (by first|omega|assumption) rfl ?_)|(refine mE ?_;first|refine TL.pureT rfl yD rfl ?_|refine TL.pureF rfl yD rfl ?_|refine TL.pure rfl rfl ?_|refine TL.eqNil rfl rfl rfl ?_|refine TL.neNil rfl rfl rfl ?_)|(refine eA ?_;first|refine TL.convU rfl rfl oM rfl ?_|refine TL.convN rfl (by first|omega|assumption) rfl ?_|refine TL.convI rfl oM oM rfl ?_|refine iC rfl rfl rfl ?_)|(refine bZ ?_;first|refine dR rfl rfl yB (by exact rfl) (by exact rfl) (by exact rfl) ?_|refine eG rfl rfl yB (by exact rfl) (by exact rfl) (by exact rfl) ?_|refine TL.storeN rfl rfl yB (by exact rfl) (by exact rfl) (by exact rfl) (by exact rfl) ?_)|(refine TL.isBox ?_;first|refine TL.boxA rfl rfl ?_|refine TL.box rfl rfl rfl ?_)|refine TL.alloc rfl rfl ?_|(refine cL ?_;first|refine gI rfl (mP rfl) (mP rfl) oM oM oM rfl rfl ?_|refine gI rfl (aP _) (mP rfl) oM oM oM rfl rfl ?_|refine gI rfl (mP rfl) (aP _) oM oM oM rfl rfl ?_|refine gI rfl (aP _) (aP _) oM oM oM rfl rfl ?_)|(refine TL.isBuild ?_;first|refine TL.build rfl rfl rfl ?_|refine mU rfl rfl rfl ?_)|refine TL.nilCheck rfl rfl ?_|refine TL.buildSlice0 rfl ?_|(refine eU ?_;first|refine TL.len_slice rfl rfl ?_|refine TL.min2 rfl rfl rfl ?_)|refine T.cond_true rfl ?_|refine T.cond_false rfl ?_|refine T.cond_yes rfl yD ?_|refine T.cond_no rfl yD ?_|refine T.ret ?_|refine T.skip ?_|refine T.exit ?_|refine thenQ_ret ?_|refine thenQ_exit ?_|refine blockQ_hit ?_|refine blockQ_miss rfl ?_|refine blockQ_ret ?_|refine loopQ_ret ?_|refine loopQ_exit ?_|refine TL.pure rfl rfl ?_|refine uptoQ_normal ?_|refine upto_seq ?_|refine upto_end ?_|refine uptoQ_ret ?_|refine uptoQ_exit ?_);exact k.h)):G:=h ⟨k⟩
theorem aF {A G:Prop} (k:A) (h:Wr A→G:=by (intro k;repeat1' (refine yC ?_);exact k.h)):G:=h ⟨k⟩
theorem yQ {A G:Prop} (k:A) (h:Wr A→G:=by (intro k;(first|refine bW rfl rfl rfl ?_|refine does_mk rfl rfl rfl rfl ?_);intro wq r1 r2 e0;(repeat (refine aJ rfl rfl ?_;intro vq a0;obtain rfl:=a0));refine aZ ?_;revert wq r1 r2 e0;exact k.h)):G:=h ⟨k⟩
theorem yT {A G:Prop} (k:A) (h:Wr A→G:=by (intro k;(repeat (refine aJ rfl rfl ?_;intro vq a0;obtain rfl:=a0));refine aZ ?_;exact k.h)):G:=h ⟨k⟩
theorem yU {A G:Prop} (k:A) (h:Wr A→G:=by (intro k;(repeat (refine needA_cons rfl rfl ?_;intro vq a0;obtain rfl:=Eq.symm a0));refine needA_nil ?_;exact k.h)):G:=h ⟨k⟩
end Go.V
