import Derived.Test.YtfpadnmdafiddaaGreatDoorKa
set_option linter.all false
set_option maxHeartbeats 16000000
set_option maxRecDepth 100000
namespace Go.Proofs.YtfpadnmdafiddaaGreatDoor.vers
open Go.Proofs.YtfpadnmdafiddaaGreatDoor
open Go Go.RowKit Go.V
def ints (l:List Int):List Value:=l.map (Value.int .i64)
def minL (l:List Int):Int:=(l.drop 1).foldl min (l.getD 0 0)
theorem ints_at {l:List Int} {k:Nat} (h:k<l.length):(ints l)[k]? = some (.int .i64 (l.getD k 0)):=by
 simp [ints,h]
theorem wrap_i64 {z:Int} (h1 : -9223372036854775808≤z) (h2:z≤9223372036854775807):IntKind.wrap .i64 z=z:=by
 exact IntWalk.i64_in _ (by omega)
theorem min_step (p q:Int):(if q<p then q else p)=min p q:=by
 by_cases h:q<p
 ·rw [if_pos h,Int.min_eq_right (by omega)]
 ·rw [if_neg h,Int.min_eq_left (by omega)]
theorem min_c (F:Nat→Prop) (a:Option Addr) (n c:Nat) (l:List Int) (w:World) (hs:Sl F w 1 a n c (ints l)) (hn:0<n) :
  Calls Tryz.prog 187 #[.slice a n c] w (Ret λ v w'=>v=.int .i64 (minL l)∧w=w'):=by
 have hlen:l.length=n:=by have:=hs.len;simpa [ints] using this
 have hcap:n≤9223372036854775807:=by have:=hs.cap;have:=hs.max;unfold maxLen at this;omega
 refine V.calls (args:=[_]) Tryz.func187 rfl Tryz.ntmps187 rfl rfl ?_
 repeat (first|(refine aB ?_;refine TL.pure rfl rfl ?_)|(refine aD ?_;refine TL.pure rfl rfl ?_)|refine TL.nil ?_|refine aA ?_|refine aJ ?_|refine aC ?_|(refine aH ?_;refine TL.pure rfl rfl ?_)|refine aO rfl rfl ?_|refine eG rfl yD ?_|refine aV ?_)
 refine aW (j:=0) rfl rfl rfl hn (Nat.mul_one _) ⟨_,_,hs⟩ rfl ?_
 have hc:=hs.row.cell (ints_at (k:=0) (by omega))
 repeat (first|(refine aD ?_;refine TL.pure rfl rfl ?_)|refine aK rfl yM rfl ?_|refine TL.nil ?_|refine aA ?_|refine aJ ?_|refine aC ?_|refine T.block ?_)
 refine cM (S:=Nat) (λ k=>[(0,.slice a n c),(3,.int .i64 (((l.take k).drop 1).foldl min (l.getD 0 0))),(4,.int .i64 (k:Int))]) (λ k w'=>1≤k∧k≤n∧w=w') (λ k=>n-k) 1 ?_ ⟨by omega,by omega,rfl⟩ ?_
 ·refine ⟨rfl,?_,rfl,trivial⟩
  cases l<;>rfl
 ·rintro k w' ⟨h1,h2,rfl⟩
  have hkk:=ints_at (l:=l) (k:=k)
  repeat (first|(refine aB ?_;refine TL.pure rfl rfl ?_)|refine TL.nil ?_|refine aA ?_|refine aJ ?_|refine aC ?_|(refine aH ?_;refine TL.pure rfl rfl ?_)|refine aO rfl rfl ?_)
  refine T.cond rfl (λ h=>?_) (λ h=>?_)
  ·replace h:=of_decide_eq_true h
   have hk:k<n:=by omega
   repeat (first|(refine aB ?_;refine TL.pure rfl rfl ?_)|refine aA ?_|refine aJ ?_|refine aC ?_|refine T.block ?_|refine aV ?_)
   refine aW (j:=k) rfl rfl rfl hk (Nat.mul_one _) ⟨_,_,hs⟩ rfl ?_
   have hc:=hs.row.cell (hkk (by omega))
   repeat (first|(refine aB ?_;refine TL.pure rfl rfl ?_)|(refine aD ?_;refine TL.pure rfl rfl ?_)|refine aK rfl yM rfl ?_|(refine bJ ?_;refine TL.addI rfl rfl (by omega) (by omega) rfl ?_)|refine TL.nil ?_|refine aA ?_|refine aC ?_|refine aT ?_|refine TL.min2 rfl rfl rfl ?_)
   refine bG (k+1) ⟨rfl,?_,?_,trivial⟩ ⟨by omega,by omega,rfl⟩ (by omega)
   ·rw [min_step,List.take_succ_eq_append_getElem (by omega),List.drop_append_of_le_length (by simp;omega),List.foldl_append]
    simp [hlen,hk]
    rfl
   ·rfl
  ·replace h:=of_decide_eq_false h
   repeat (first|(refine aB ?_;refine TL.pure rfl rfl ?_)|(refine aD ?_;refine TL.pure rfl rfl ?_)|refine TL.nil ?_|refine aA ?_|refine aJ ?_|refine aC ?_|refine bC ?_|refine cN ?_|refine bM ?_|refine bO ?_|refine bN ?_)
   refine cF rfl ⟨_,rfl,?_,rfl⟩
   rw [List.take_of_length_le (by omega)]
   rfl
def vok (base:Int) (l:List Int):Bool:=decide (0≤base)&&decide (0<l.length)&&decide (l.length≤4096)&&decide (-1≤minL l)
def errV (base:Int) (l:List Int):Int:=if vok base l then 0 else 2
theorem check_c (F:Nat→Prop) (base:Int) (a:Option Addr) (n c:Nat) (l:List Int) (w:World) (hs:Sl F w 1 a n c (ints l)) :
  Calls Tryz.prog 147 #[.agg #[.int .i64 base,.slice a n c]] w (Ret λ v w'=>v=.int .i64 (errV base l)∧Grow w w'):=by
 have hlen:l.length=n:=by have:=hs.len;simpa [ints] using this
 refine V.calls (args:=[_]) Tryz.func147 rfl Tryz.ntmps147 rfl rfl ?_
 repeat' (first|(refine iG ?_;first|refine bQ rfl rfl rfl ?_|refine aX rfl rfl rfl ?_)|(refine aB ?_;refine TL.pure rfl rfl ?_)|(refine aD ?_;refine TL.pure rfl rfl ?_)|refine aK rfl yM rfl ?_|refine aF rfl rfl ?_|refine TL.nil ?_|refine aA ?_|refine aJ ?_|refine aC ?_|(refine aH ?_;refine TL.pure rfl rfl ?_)|(refine bW ?_;(refine TL.box rfl rfl rfl ?_;intro bk w' hg hbk hsz hsz'))|refine aO rfl rfl ?_|refine aN rfl ?_|refine bC ?_|refine aV ?_|refine bI ?_|refine TL.pure rfl rfl ?_|(refine aI rfl (min_c F a n c l _ (hs.grow (by assumption)) (by omega)) rfl ?_;rintro _ _ ⟨rfl,rfl⟩)|(refine TL.guard rfl rfl rfl ?_ ?_<;>intro h<;>(try simp only [decide_eq_true_eq,decide_eq_false_iff_not,Bool.not_false,Bool.not_true,beq_iff_eq,beq_eq_false_iff_ne,bne_iff_ne,bne_eq_false_iff_eq,ne_eq,gt_iff_lt,ge_iff_le,Int.not_lt,Int.not_le,Bool.not_eq_true',Bool.not_eq_false',not_true_eq_false,not_false_eq_true,reduceCtorEq] at h)<;>(try (exfalso;omega)))|(refine T.cond rfl ?_ ?_<;>intro h<;>(try simp only [decide_eq_true_eq,decide_eq_false_iff_not,Bool.not_false,Bool.not_true,beq_iff_eq,beq_eq_false_iff_ne,bne_iff_ne,bne_eq_false_iff_eq,ne_eq,gt_iff_lt,ge_iff_le,Int.not_lt,Int.not_le,Bool.not_eq_true',Bool.not_eq_false',not_true_eq_false,not_false_eq_true,reduceCtorEq] at h)<;>(try (exfalso;omega))))
 all_goals (refine cF rfl ⟨_,rfl,?_,yG⟩;congr 1;simp [errV,vok,hlen] at *;omega)
def idxV (base:Int) (l:List Int) (k:Int):Int×Int:=if vok base l then (if base≤k∧k-base<l.length then (k-base,0) else (0,6)) else (0,2)
theorem index_c (F:Nat→Prop) (base k:Int) (a:Option Addr) (n c:Nat) (l:List Int) (w:World) (hs:Sl F w 1 a n c (ints l)) (hb : -9223372036854775808≤base∧base≤9223372036854775807) (hk : -9223372036854775808≤k∧k≤9223372036854775807) :
  Calls Tryz.prog 143 #[.agg #[.int .i64 base,.slice a n c],.int .i64 k] w (Ret λ v w'=>v=.tuple #[.int .i64 (idxV base l k).1,.int .i64 (idxV base l k).2]∧Grow w w'):=by
 have hlen:l.length=n:=by have:=hs.len;simpa [ints] using this
 refine V.calls (args:=[_,_]) Tryz.func143 rfl Tryz.ntmps143 rfl rfl ?_
 repeat (first|(refine aB ?_;refine TL.pure rfl rfl ?_)|(refine aD ?_;refine TL.pure rfl rfl ?_)|(refine aU ?_;refine bE rfl yB (by exact rfl) rfl ?_)|refine TL.nil ?_|refine aA ?_|refine aJ ?_|refine aC ?_|(refine aH ?_;refine TL.pure rfl rfl ?_)|(refine bW ?_;(refine TL.box rfl rfl rfl ?_;intro bk w' hg hbk hsz hsz'))|(refine aI rfl (check_c F base a n c l _ (hs.grow (by assumption))) rfl ?_;rintro _ w2 ⟨rfl,hg⟩))
 by_cases hv:vok base l=true
 ·have he:errV base l=0:=by simp [errV,hv]
  rw [he]
  have h0:0≤base:=by simp [vok] at hv;omega
  repeat' (first|(refine iG ?_;first|refine bQ rfl rfl rfl ?_|refine aX rfl rfl rfl ?_)|(refine aB ?_;refine TL.pure rfl rfl ?_)|(refine aD ?_;refine TL.pure rfl rfl ?_)|refine aK rfl yM rfl ?_|refine aF rfl rfl ?_|(refine cJ ?_;refine iT rfl rfl (by omega) (by omega) rfl ?_)|refine TL.nil ?_|refine aA ?_|refine aJ ?_|refine aC ?_|(refine aH ?_;refine TL.pure rfl rfl ?_)|refine aO rfl rfl ?_|refine aN rfl ?_|refine aE rfl ?_|refine bC ?_|refine aV ?_|refine bI ?_|refine TL.pure rfl rfl ?_|(refine TL.guard rfl rfl rfl ?_ ?_<;>intro h<;>(try simp only [decide_eq_true_eq,decide_eq_false_iff_not,Bool.not_false,Bool.not_true,beq_iff_eq,beq_eq_false_iff_ne,bne_iff_ne,bne_eq_false_iff_eq,ne_eq,gt_iff_lt,ge_iff_le,Int.not_lt,Int.not_le,Bool.not_eq_true',Bool.not_eq_false',not_true_eq_false,not_false_eq_true,reduceCtorEq] at h)<;>(try (exfalso;omega)))|(refine T.cond rfl ?_ ?_<;>intro h<;>(try simp only [decide_eq_true_eq,decide_eq_false_iff_not,Bool.not_false,Bool.not_true,beq_iff_eq,beq_eq_false_iff_ne,bne_iff_ne,bne_eq_false_iff_eq,ne_eq,gt_iff_lt,ge_iff_le,Int.not_lt,Int.not_le,Bool.not_eq_true',Bool.not_eq_false',not_true_eq_false,not_false_eq_true,reduceCtorEq] at h)<;>(try (exfalso;omega))))
  all_goals (refine jS rfl rfl ⟨_,rfl,?_,yG⟩)
  ·simp at *;rw [idxV,if_pos hv,if_neg (by omega)];exact ⟨rfl,rfl⟩
  ·simp at *;rw [idxV,if_pos hv,if_pos (by omega)];exact ⟨rfl,rfl⟩
  ·simp at *;rw [idxV,if_pos hv,if_neg (by omega)];exact ⟨rfl,rfl⟩
 ·have he:errV base l=2:=by simp [errV,hv]
  rw [he]
  repeat (first|(refine aB ?_;refine TL.pure rfl rfl ?_)|(refine aD ?_;refine TL.pure rfl rfl ?_)|refine TL.nil ?_|refine aA ?_|refine aJ ?_|refine aC ?_|refine aN rfl ?_|refine bC ?_|refine bI ?_)
  refine jS rfl rfl ⟨_,rfl,?_,yG⟩
  simp [idxV,hv]
end Go.Proofs.YtfpadnmdafiddaaGreatDoor.vers
namespace Go.Proofs.YtfpadnmdafiddaaGreatDoor.vers
open Go.Proofs.YtfpadnmdafiddaaGreatDoor
open Go Go.RowKit Go.V
theorem last_c (F:Nat→Prop) (base:Int) (a:Option Addr) (n c:Nat) (l:List Int) (w:World) (hs:Sl F w 1 a n c (ints l)) :
  Calls Tryz.prog 74 #[.agg #[.int .i64 base,.slice a n c]] w (Ret λ v w'=>v=.int .i64 (if vok base l then IntKind.wrap .i64 (base+l.length-1) else 0)∧Grow w w'):=by
 have hlen:l.length=n:=by have:=hs.len;simpa [ints] using this
 refine V.calls (args:=[_]) Tryz.func74 rfl Tryz.ntmps74 rfl rfl ?_
 repeat (first|(refine aD ?_;refine TL.pure rfl rfl ?_)|(refine aU ?_;refine bE rfl yB (by exact rfl) rfl ?_)|refine TL.nil ?_|refine aA ?_|refine aJ ?_|refine aC ?_|(refine aH ?_;refine TL.pure rfl rfl ?_)|(refine bW ?_;(refine TL.box rfl rfl rfl ?_;intro bk w' hg hbk hsz hsz'))|(refine aI rfl (check_c F base a n c l _ (hs.grow (by assumption))) rfl ?_;rintro _ w2 ⟨rfl,hg⟩))
 by_cases hv:vok base l=true
 ·have he:errV base l=0:=by simp [errV,hv]
  have h0:0≤base:=by simp [vok] at hv;omega
  have hn:n≤4096:=by simp [vok] at hv;omega
  rw [he]
  repeat (first|(refine aD ?_;refine TL.pure rfl rfl ?_)|refine aK rfl yM rfl ?_|refine aF rfl rfl ?_|(refine bJ ?_;refine TL.pure rfl rfl ?_)|(refine cJ ?_;refine TL.pure rfl rfl ?_)|refine TL.nil ?_|refine aA ?_|refine aJ ?_|refine aC ?_|refine aO rfl rfl ?_|refine aE rfl ?_|refine bC ?_|refine aV ?_)
  refine cF rfl ⟨_,rfl,?_,yG⟩
  rw [if_pos hv,hlen]
  congr 1
  simp only [IntKind.wrap_i64]
  omega
 ·have he:errV base l=2:=by simp [errV,hv]
  rw [he]
  repeat (first|(refine aD ?_;refine TL.pure rfl rfl ?_)|refine TL.nil ?_|refine aA ?_|refine aJ ?_|refine aC ?_|refine aN rfl ?_|refine bC ?_|refine bI ?_)
  refine cF rfl ⟨_,rfl,?_,yG⟩
  rw [if_neg hv]
def atV (base:Int) (l:List Int) (k:Int):Int×Int:=if (idxV base l k).2=0 then (l.getD (idxV base l k).1.toNat 0,0) else (0,(idxV base l k).2)
theorem idx_yes {base:Int} {l:List Int} {k:Int} (h:(idxV base l k).2=0):0≤(idxV base l k).1∧(idxV base l k).1.toNat<l.length∧vok base l=true∧(idxV base l k).1=k-base:=by
 unfold idxV at *
 split at h
 ·rename_i hv
  rw [if_pos hv]
  split at h
  ·rename_i h2;rw [if_pos h2];refine ⟨?_,?_,hv,rfl⟩<;>simp<;>omega
  ·simp at h
 ·simp at h
theorem at_c (F:Nat→Prop) (base k:Int) (a:Option Addr) (n c:Nat) (l:List Int) (w:World) (hs:Sl F w 1 a n c (ints l)) (hb : -9223372036854775808≤base∧base≤9223372036854775807) (hk : -9223372036854775808≤k∧k≤9223372036854775807) :
  Calls Tryz.prog 73 #[.agg #[.int .i64 base,.slice a n c],.int .i64 k] w (Ret λ v w'=>v=.tuple #[.int .i64 (atV base l k).1,.int .i64 (atV base l k).2]∧Grow w w'):=by
 have hlen:l.length=n:=by have:=hs.len;simpa [ints] using this
 refine V.calls (args:=[_,_]) Tryz.func73 rfl Tryz.ntmps73 rfl rfl ?_
 repeat (first|(refine aB ?_;refine TL.pure rfl rfl ?_)|(refine aD ?_;refine TL.pure rfl rfl ?_)|(refine aU ?_;refine bE rfl yB (by exact rfl) rfl ?_)|refine TL.nil ?_|refine aA ?_|refine aJ ?_|refine aC ?_|(refine aH ?_;refine TL.pure rfl rfl ?_)|(refine bW ?_;(refine TL.box rfl rfl rfl ?_;intro bk w' hg hbk hsz hsz'))|refine TL.pure rfl rfl ?_|(refine aI rfl (index_c F base k a n c l _ (hs.grow (by assumption)) hb hk) rfl ?_;rintro _ w2 ⟨rfl,hg2⟩))
 generalize hx:idxV base l k=x
 obtain ⟨i,er⟩:=x
 simp only
 by_cases h0:er=0
 ·subst h0
  obtain ⟨y1,y2,y3,y4⟩:=idx_yes (base:=base) (l:=l) (k:=k) (by rw [hx])
  rw [hx] at y1 y2 y4
  simp only at y1 y2 y4
  have hcell:=((hs.grow (by assumption)).grow hg2).row.cell (ints_at (k:=i.toNat) y2)
  repeat (first|(refine aB ?_;refine TL.pure rfl rfl ?_)|(refine aD ?_;refine TL.pure rfl rfl ?_)|refine aK rfl yM rfl ?_|refine aF rfl rfl ?_|refine TL.nil ?_|refine aA ?_|refine aJ ?_|refine aC ?_|refine aE rfl ?_|refine bC ?_|refine aV ?_|(refine aW (j:=i.toNat) rfl rfl (by omega) (by omega) (Nat.mul_one _) ⟨_,_,(hs.grow (by assumption)).grow hg2⟩ rfl ?_))
  refine jS rfl rfl ⟨_,rfl,?_,yG⟩
  simp [atV,hx]
 ·repeat (first|(refine aB ?_;refine TL.pure rfl rfl ?_)|(refine aD ?_;refine TL.pure rfl rfl ?_)|refine TL.nil ?_|refine aA ?_|refine aJ ?_|refine aC ?_|refine eT rfl yD ?_|refine bC ?_|refine bI ?_)
  refine jS rfl rfl ⟨_,rfl,?_,yG⟩
  simp [atV,hx,h0]
end Go.Proofs.YtfpadnmdafiddaaGreatDoor.vers
namespace Go.Proofs.YtfpadnmdafiddaaGreatDoor.vers
open Go.Proofs.YtfpadnmdafiddaaGreatDoor
open Go Go.RowKit Go.V
theorem ints_one (l:List Int):∀ u∈ints l,u.oneCell'=true:=by
 intro u hu;simp [ints] at hu;obtain ⟨x,_,rfl⟩:=hu;rfl
theorem clone_c (F:Nat→Prop) (a:Option Addr) (n c:Nat) (l:List Int) (w:World) (hs:Sl F w 1 a n c (ints l)) (hn:n≤4096) :
  Calls Tryz.prog 144 #[.slice a n c] w (Ret λ v w'=>w'.ownsRow w.heap.size 3 1 v n (ints l)∧Grow w w'):=by
 refine V.calls (args:=[_]) Tryz.func144 rfl Tryz.ntmps144 rfl rfl ?_
 cases a with
 | none =>
  have h0:=hs.nil rfl
  have h1:=hs.cap
  obtain rfl:n=0:=by omega
  subst h0
  have hl:ints l=[]:=List.eq_nil_of_length_eq_zero (by simpa using hs.len)
  repeat (first|(refine aB ?_;refine TL.pure rfl rfl ?_)|(refine aD ?_;refine TL.pure rfl rfl ?_)|refine TL.nil ?_|refine aA ?_|refine aJ ?_|refine aC ?_|refine TL.eqNil rfl rfl rfl ?_|refine aN rfl ?_|refine bC ?_|refine bI ?_)
  refine cF rfl ⟨_,rfl,?_,Grow.refl _⟩
  rw [hl]
  exact World.ownsRow_nil _ _ _ _
 | some p =>
  repeat (first|(refine aB ?_;refine TL.pure rfl rfl ?_)|(refine aD ?_;refine TL.pure rfl rfl ?_)|refine TL.nil ?_|refine aA ?_|refine aJ ?_|refine aC ?_|refine TL.eqNil rfl rfl rfl ?_|(refine mM ?_;(refine jM rfl ?_;intro bk w' hg hbk hsz hsz'))|refine aE rfl ?_|refine aV ?_)
  refine iU rfl rfl (own_empty hbk (Nat.le_of_eq hsz)) (hs.grow hg) (ints_one l) (by omega) (by omega) rfl ?_
  intro v' w2 hown hg2
  repeat (first|(refine aD ?_;refine TL.pure rfl rfl ?_)|refine TL.nil ?_|refine aA ?_|refine bC ?_)
  exact cF rfl ⟨_,rfl,hown,yG⟩
theorem trunc_c (F:Nat→Prop) (base k:Int) (a:Option Addr) (n c:Nat) (l:List Int) (w:World) (hs:Sl F w 1 a n c (ints l)) (hb : -9223372036854775808≤base∧base≤9223372036854775807) (hk : -9223372036854775808≤k∧k≤9223372036854775807) (hi:(idxV base l k).2=0) :
  Calls Tryz.prog 70 #[.agg #[.int .i64 base,.slice a n c],.int .i64 k] w
   (Ret λ v w'=>∃ a' n' c',v=.tuple #[.agg #[.int .i64 base,.slice a' n' c'],.int .i64 0]∧Sl (λ k=>w.heap.size≤k) w' 1 a' n' c' (ints (l.take ((k-base).toNat+1)))∧Grow w w'):=by
 have hlen:l.length=n:=by have:=hs.len;simpa [ints] using this
 obtain ⟨y1,y2,y3,y4⟩:=idx_yes hi
 have hn:n≤4096:=by simp [vok] at y3;omega
 refine V.calls (args:=[_,_]) Tryz.func70 rfl Tryz.ntmps70 rfl rfl ?_
 repeat (first|(refine aB ?_;refine TL.pure rfl rfl ?_)|(refine aD ?_;refine TL.pure rfl rfl ?_)|(refine aU ?_;refine bE rfl yB (by exact rfl) rfl ?_)|refine TL.nil ?_|refine aA ?_|refine aJ ?_|refine aC ?_|(refine aH ?_;refine TL.pure rfl rfl ?_)|(refine bW ?_;(refine TL.box rfl rfl rfl ?_;intro bk w' hg hbk hsz hsz'))|(refine bD ?_;(refine TL.alloc rfl rfl ?_;intro bk w' hg hbk hsz hsz'))|refine eG rfl yD ?_|refine aV ?_|refine TL.pure rfl rfl ?_|(refine aI rfl (index_c F base k a n c l _ ((hs.grow (by assumption)).grow (by assumption)) hb hk) rfl ?_;rintro _ w2 ⟨rfl,hg2⟩))
 have hs2:=((hs.grow (by assumption)).grow hg).grow hg2
 apply T.any 10 [is _,is _,is _,is _,is _,is _,is _,is _,slF F 1 ((k-base).toNat+1) ((k-base).toNat+1) (ints (l.take ((k-base).toNat+1))),own w2.heap.size 3 1 ((k-base).toNat+1) (ints (l.take ((k-base).toNat+1)))]
 ·rfl
 ·repeat' (first|exact bX|refine bU ?_ ?_)
  iterate 8
   ·(refine aQ rfl rfl rfl ?_);( intro wq _ _ hgq;(repeat (refine aG rfl rfl ?_;intro vq hvq;try (obtain rfl:=hvq)));(refine aM ?_))
    repeat (first|(refine aB ?_;refine TL.pure rfl rfl ?_)|refine aK rfl yM rfl ?_|refine aF rfl rfl ?_|(refine bJ ?_;refine TL.addI rfl rfl (by omega) (by omega) rfl ?_)|refine TL.nil ?_)
    exact aS rfl yG rfl
  ·(refine aQ rfl rfl rfl ?_);( intro wq _ _ hgq;(repeat (refine aG rfl rfl ?_;intro vq hvq;try (obtain rfl:=hvq)));(refine aM ?_))
   refine TL.slice (l:=0) (h:=(k-base).toNat+1) (mm:=(k-base).toNat+1) rfl (hs2.grow (by assumption)) (bZ 0) (dG rfl (by omega)) (dG rfl (by omega)) (by intro h;cases h) (by omega) (by omega) (by omega) (by have:=hs.cap;omega) rfl ?_
   intro a' hsl _
   repeat (refine TL.nil ?_)
   refine aS rfl yG ⟨a',rfl,?_⟩
   simpa [ints,List.map_take] using hsl
  ·(refine aQ rfl rfl rfl ?_);( intro wq _ _ hgq;(repeat (refine aG rfl rfl ?_;intro vq hvq;try (obtain rfl:=hvq)));(refine aM ?_))
   obtain ⟨a',rfl,hsl⟩:=hvq
   refine aI rfl (clone_c F a' _ _ _ _ hsl (by omega)) rfl ?_
   rintro v3 w3 ⟨hown,hg3⟩
   have h4:=hgq.size
   repeat (refine TL.nil ?_)
   exact aS rfl yG (fC hown h4)
 ·intro w6 lo6 hi6 hg6 hspan6 hapart6
  ((repeat (refine aG rfl rfl ?_;intro vq hvq;try (obtain rfl:=hvq)));(refine aM ?_))
  obtain ⟨a',c',rfl,hsl⟩:=cE hvq
  repeat (first|(refine aD ?_;refine TL.pure rfl rfl ?_)|refine TL.nil ?_|refine aA ?_|(refine aP ?_;(refine aY rfl rfl yB (by exact rfl) (by exact rfl) (by exact rfl) ?_;intro w' hu hbk hsz))|refine TL.build rfl rfl rfl ?_|refine bC ?_)
  refine jC rfl (load_blk hbk rfl rfl) rfl ⟨_,rfl,a',_,c',rfl,(hsl.upd hu (λ k hk=>?_)).mono (λ k hk=>?_),yG⟩
  ·have:=hg2.size;omega
  ·have:=hg2.size;omega
theorem drop_c (F:Nat→Prop) (base k:Int) (a:Option Addr) (n c:Nat) (l:List Int) (w:World) (hs:Sl F w 1 a n c (ints l)) (hb : -9223372036854775808≤base∧base≤9223372036854775807) (hk : -9223372036854775808≤k∧k≤9223372036854775807) (hi:(idxV base l k).2=0) :
  Calls Tryz.prog 71 #[.agg #[.int .i64 base,.slice a n c],.int .i64 k] w
   (Ret λ v w'=>∃ a' n' c',v=.tuple #[.agg #[.int .i64 k,.slice a' n' c'],.int .i64 0]∧Sl (λ k=>w.heap.size≤k) w' 1 a' n' c' (ints (l.drop (k-base).toNat))∧Grow w w'):=by
 have hlen:l.length=n:=by have:=hs.len;simpa [ints] using this
 obtain ⟨y1,y2,y3,y4⟩:=idx_yes hi
 have hn:n≤4096:=by simp [vok] at y3;omega
 refine V.calls (args:=[_,_]) Tryz.func71 rfl Tryz.ntmps71 rfl rfl ?_
 repeat (first|(refine aB ?_;refine TL.pure rfl rfl ?_)|(refine aD ?_;refine TL.pure rfl rfl ?_)|(refine aU ?_;first|refine aK rfl yM rfl ?_|refine bE rfl yB (by exact rfl) rfl ?_)|refine aF rfl rfl ?_|refine TL.nil ?_|refine aA ?_|refine aJ ?_|refine aC ?_|(refine aH ?_;refine TL.pure rfl rfl ?_)|(refine bW ?_;(refine TL.box rfl rfl rfl ?_;intro bk w' hg hbk hsz hsz'))|(refine bD ?_;(refine TL.alloc rfl rfl ?_;intro bk w' hg hbk hsz hsz'))|refine aO rfl rfl ?_|refine eG rfl yD ?_|refine aV ?_|refine TL.pure rfl rfl ?_|(refine aI rfl (index_c F base k a n c l _ ((hs.grow (by assumption)).grow (by assumption)) hb hk) rfl ?_;rintro _ w2 ⟨rfl,hg2⟩))
 have hs2:=((hs.grow (by assumption)).grow hg).grow hg2
 refine TL.slice (l:=(k-base).toNat) (h:=n) (mm:=n) rfl hs2 (dG rfl (by omega)) (dG rfl rfl) (dG rfl rfl) (by intro h;cases h) (by omega) (by omega) (by omega) hs.cap rfl ?_
 intro a' hsl _
 have hsl2:Sl F w2 1 a' (n-(k-base).toNat) (n-(k-base).toNat) (ints (l.drop (k-base).toNat)):=by
  have:List.take ((n-(k-base).toNat)*1) (List.drop ((k-base).toNat*1) (ints l))=ints (l.drop (k-base).toNat):=by
   rw [List.take_of_length_le (by simp [ints,hlen])]
   simp [ints]
  rwa [this] at hsl
 refine aI rfl (clone_c F a' _ _ _ _ hsl2 (by omega)) rfl ?_
 rintro v3 w3 ⟨hown,hg3⟩
 obtain ⟨a3,c3,rfl,hsl3⟩:=cE hown
 repeat (first|(refine aD ?_;refine TL.pure rfl rfl ?_)|refine TL.nil ?_|refine aA ?_|(refine aP ?_;(refine aY rfl rfl yB (by exact rfl) (by exact rfl) (by exact rfl) ?_;intro w' hu hbk hsz))|refine TL.build rfl rfl rfl ?_|refine bC ?_)
 refine jC rfl (load_blk hbk rfl rfl) rfl ⟨_,rfl,a3,_,c3,rfl,(hsl3.upd hu (λ k hk=>?_)).mono (λ k hk=>?_),yG⟩
 ·have:=hg2.size;omega
 ·have:=hg2.size;omega
theorem push_c (F:Nat→Prop) (base r:Int) (a:Option Addr) (n c:Nat) (l:List Int) (w:World) (hs:Sl F w 1 a n c (ints l)) (hv:vok base l=true) (hr : -1≤r) (hn:n<4096) :
  Calls Tryz.prog 75 #[.agg #[.int .i64 base,.slice a n c],.int .i64 r] w
   (Ret λ v w'=>∃ a' n' c',v=.tuple #[.agg #[.int .i64 base,.slice a' n' c'],.int .i64 0]∧Sl (λ k=>w.heap.size≤k) w' 1 a' n' c' (ints (l++[r]))∧Grow w w'):=by
 have hlen:l.length=n:=by have:=hs.len;simpa [ints] using this
 have he:errV base l=0:=by simp [errV,hv]
 refine V.calls (args:=[_,_]) Tryz.func75 rfl Tryz.ntmps75 rfl rfl ?_
 repeat (first|refine aX rfl rfl rfl ?_|(refine aB ?_;refine TL.pure rfl rfl ?_)|(refine aD ?_;refine TL.pure rfl rfl ?_)|(refine aU ?_;first|refine aK rfl yM rfl ?_|refine bE rfl yB (by exact rfl) rfl ?_)|refine aF rfl rfl ?_|refine TL.nil ?_|refine aA ?_|refine aJ ?_|refine aC ?_|(refine aH ?_;refine TL.pure rfl rfl ?_)|(refine bW ?_;(refine TL.box rfl rfl rfl ?_;intro bk w' hg hbk hsz hsz'))|(refine bD ?_;(refine TL.alloc rfl rfl ?_;intro bk w' hg hbk hsz hsz'))|refine aO rfl rfl ?_|refine eG rfl yD ?_|refine aV ?_|refine TL.pure rfl rfl ?_|(refine aI rfl (check_c F base a n c l _ ((hs.grow (by assumption)).grow (by assumption))) rfl ?_;rintro _ w2 ⟨rfl,hg2⟩;rw [he]))
 have hs2:=((hs.grow (by assumption)).grow hg).grow hg2
 apply T.anyL 8 7 [is _,is _,is _,is _,own w2.heap.size 3 1 n (ints l),is _,slF (λ _=>True) 1 1 1 (ints [r]),own w2.heap.size 3 1 (n+1) (ints l++ints [r])]
 ·rfl
 ·rfl
 ·repeat' (first|exact bX|refine bU ?_ ?_)
  iterate 4
   ·(refine aQ rfl rfl rfl ?_);( intro wq _ _ hgq;(repeat (refine aG rfl rfl ?_;intro vq hvq;try (obtain rfl:=hvq)));(refine aM ?_))
    repeat (first|refine aK rfl yM rfl ?_|refine aF rfl rfl ?_|refine TL.nil ?_)
    exact aS rfl yG rfl
  ·(refine aQ rfl rfl rfl ?_);( intro wq _ _ hgq;(repeat (refine aG rfl rfl ?_;intro vq hvq;try (obtain rfl:=hvq)));(refine aM ?_))
   refine aI rfl (clone_c F a _ _ _ _ (hs2.grow hgq) (by omega)) rfl ?_
   rintro v3 w3 ⟨hown,hg3⟩
   have h4:=hgq.size
   repeat (refine TL.nil ?_)
   exact aS rfl yG (fC hown h4)
  ·(refine aQ rfl rfl rfl ?_);( intro wq _ _ hgq;(repeat (refine aG rfl rfl ?_;intro vq hvq;try (obtain rfl:=hvq)));(refine aM ?_))
   repeat (first|(refine aB ?_;refine TL.pure rfl rfl ?_)|refine TL.nil ?_)
   exact aS rfl yG rfl
  ·(refine aQ rfl rfl rfl ?_);( intro wq _ _ hgq;(repeat (refine aG rfl rfl ?_;intro vq hvq;try (obtain rfl:=hvq)));(refine aM ?_))
   refine TL.buildSlice rfl rfl rfl rfl rfl ?_
   intro b w3 hg3 hb3 hs3 hs4 hs5
   repeat (refine TL.nil ?_)
   exact aS rfl yG ⟨_,rfl,(bR hb3 hs5 (by decide)).mono (λ _ _=>trivial)⟩
  ·(refine aQ rfl rfl rfl ?_);( intro wq _ _ hgq;(repeat (refine aG rfl rfl ?_;intro vq hvq;try (obtain rfl:=hvq)));(refine aM ?_))
   rename_i vq2 hvq2
   obtain ⟨a',rfl,hsl⟩:=hvq2
   have hown:World.ownsRow _ _ _ _ vq n (ints l):=hvq
   have h4:=hgq.size
   refine TL.append rfl rfl hown hsl (ints_one _) (by unfold maxLen;omega) (by omega) h4 rfl ?_
   intro v' w3 hown3 hgb _
   repeat (refine TL.nil ?_)
   exact one_loose rfl (cA hgb h4 (λ k hk=>(cY hown hk).1) (Below.refl _ _)) hown3
 ·intro w6 lo6 hi6 hg6 hspan6 hapart6
  ((repeat (refine aG rfl rfl ?_;intro vq hvq;try (obtain rfl:=hvq)));(refine aM ?_))
  obtain ⟨a',c',rfl,hsl⟩:=cE hvq
  repeat (first|(refine aD ?_;refine TL.pure rfl rfl ?_)|refine TL.nil ?_|refine aA ?_|(refine aP ?_;(refine aY rfl rfl yB (by exact rfl) (by exact rfl) (by exact rfl) ?_;intro w' hu hbk hsz))|refine TL.build rfl rfl rfl ?_|refine bC ?_)
  refine jC rfl (load_blk hbk rfl rfl) rfl ⟨_,rfl,a',_,c',rfl,?_,yG⟩
  have:ints (l++[r])=ints l++ints [r]:=by simp [ints]
  rw [this]
  refine (hsl.upd hu (λ k hk=>?_)).mono (λ k hk=>?_)
  ·have:=hg2.size;omega
  ·have:=hg2.size;omega
end Go.Proofs.YtfpadnmdafiddaaGreatDoor.vers
namespace Go.Proofs.YtfpadnmdafiddaaGreatDoor.vers
open Go.Proofs.YtfpadnmdafiddaaGreatDoor
open Go Go.RowKit Go.V
theorem start_c (w:World) :
  Calls Tryz.prog 69 #[] w (Ret λ v w'=>∃ a' n' c',v=.agg #[.int .i64 0,.slice a' n' c']∧Sl (λ k=>w.heap.size≤k) w' 1 a' n' c' (ints [-1])∧Grow w w'):=by
 refine V.calls (args:=[]) Tryz.func69 rfl Tryz.ntmps69 rfl rfl ?_
 repeat (first|refine TL.nil ?_|refine aA ?_|refine aJ ?_|refine aC ?_|(refine bD ?_;(refine TL.alloc rfl rfl ?_;intro bk w' hg hbk hsz hsz')))
 refine TL.buildSlice rfl rfl rfl rfl rfl ?_
 intro b w3 hg3 hb3 hs3 hs4 hs5
 repeat (first|refine TL.nil ?_|refine aA ?_|(refine aP ?_;(refine aY rfl rfl yB (by exact rfl) (by exact rfl) (by exact rfl) ?_;intro w' hu hbk hsz))|refine TL.build rfl rfl rfl ?_|refine bC ?_)
 refine retC rfl (load_blk hbk rfl rfl) ⟨_,rfl,_,_,_,rfl,?_,yG⟩
 refine ((bR hb3 hs5 (by decide)).upd hu (λ k hk=>by omega)).mono (λ k hk=>by omega)
theorem lives_c (w:World):Calls Tryz.prog 66 #[] w (Ret λ v w'=>v=.bool true∧Grow w w'):=by
 refine V.calls (args:=[]) Tryz.func66 rfl Tryz.ntmps66 rfl rfl ?_
 repeat (first|(refine aD ?_;refine TL.pure rfl rfl ?_)|refine TL.nil ?_|refine aA ?_|refine aJ ?_|refine aC ?_)
 refine aI rfl (start_c _) rfl ?_
 rintro _ w1 ⟨a1,n1,c1,rfl,hs1,hg1⟩
 refine aI rfl (push_c _ 0 5 a1 n1 c1 [-1] _ hs1 (by decide) (by decide) (by have:=hs1.len;simp [ints] at this;omega)) rfl ?_
 rintro _ w2 ⟨a2,n2,c2,rfl,hs2,hg2⟩
 repeat (first|(refine aB ?_;refine TL.pure rfl rfl ?_)|(refine aD ?_;refine TL.pure rfl rfl ?_)|(refine aU ?_;refine bE rfl yB (by exact rfl) rfl ?_)|refine TL.nil ?_|refine aA ?_|refine aJ ?_|refine aC ?_|(refine aP ?_;(refine aY rfl rfl yB (by exact rfl) (by exact rfl) (by exact rfl) ?_;intro w' hu hbk hsz))|(refine bD ?_;(refine TL.alloc rfl rfl ?_;intro bk w' hg hbk hsz hsz'))|refine TL.pure rfl rfl ?_)
 refine aI rfl (push_c _ 0 7 a2 n2 c2 [-1,5] _ (hs2.grow yG) (by decide) (by decide) (by have:=hs2.len;simp [ints] at this;omega)) rfl ?_
 rintro _ w3 ⟨a3,n3,c3,rfl,hs3,hg3⟩
 repeat (first|(refine aB ?_;refine TL.pure rfl rfl ?_)|(refine aD ?_;refine TL.pure rfl rfl ?_)|(refine aU ?_;refine bE rfl yB (by exact rfl) rfl ?_)|refine TL.nil ?_|refine aA ?_|refine aJ ?_|refine aC ?_|(refine aP ?_;(refine aY rfl rfl yB (by exact rfl) (by exact rfl) (by exact rfl) ?_;intro w' hu hbk hsz))|(refine bD ?_;(refine TL.alloc rfl rfl ?_;intro bk w' hg hbk hsz hsz'))|refine TL.pure rfl rfl ?_)
 refine aI rfl (drop_c _ 0 1 a3 n3 c3 [-1,5,7] _ (hs3.grow yG) (by decide) (by decide) (by decide)) rfl ?_
 rintro _ w4 ⟨a4,n4,c4,rfl,hs4,hg4⟩
 repeat (first|(refine aB ?_;refine TL.pure rfl rfl ?_)|(refine aD ?_;refine TL.pure rfl rfl ?_)|(refine aU ?_;refine bE rfl yB (by exact rfl) rfl ?_)|refine TL.nil ?_|refine aA ?_|refine aJ ?_|refine aC ?_|(refine aP ?_;(refine aY rfl rfl yB (by exact rfl) (by exact rfl) (by exact rfl) ?_;intro w' hu hbk hsz))|(refine bD ?_;(refine TL.alloc rfl rfl ?_;intro bk w' hg hbk hsz hsz'))|refine TL.pure rfl rfl ?_)
 have hl4:ints ([-1,5,7].drop ((1:Int)-0).toNat)=ints [5,7]:=rfl
 rw [hl4] at hs4
 refine aI rfl (at_c _ 1 1 a4 n4 c4 [5,7] _ (hs4.grow yG) (by decide) (by decide)) rfl ?_
 rintro _ w5 ⟨rfl,hg5⟩
 repeat (first|(refine aB ?_;refine TL.pure rfl rfl ?_)|(refine aD ?_;refine TL.pure rfl rfl ?_)|(refine aU ?_;refine bE rfl yB (by exact rfl) rfl ?_)|refine TL.nil ?_|refine aA ?_|refine aJ ?_|refine aC ?_|refine TL.pure rfl rfl ?_)
 refine aI rfl (at_c _ 1 0 a4 n4 c4 [5,7] _ (hs4.grow yG) (by decide) (by decide)) rfl ?_
 rintro _ w6 ⟨rfl,hg6⟩
 repeat (first|(refine aB ?_;refine TL.pure rfl rfl ?_)|(refine aD ?_;refine TL.pure rfl rfl ?_)|(refine aU ?_;refine bE rfl yB (by exact rfl) rfl ?_)|refine TL.nil ?_|refine aA ?_|refine aJ ?_|refine aC ?_|refine TL.pure rfl rfl ?_)
 refine aI rfl (trunc_c _ 1 1 a4 n4 c4 [5,7] _ (hs4.grow yG) (by decide) (by decide) (by decide)) rfl ?_
 rintro _ w7 ⟨a7,n7,c7,rfl,hs7,hg7⟩
 have e1:atV 1 [5,7] 1=(5,0):=by decide
 have e2:atV 1 [5,7] 0=(0,6):=by decide
 rw [e1,e2]
 repeat (first|refine aX rfl rfl rfl ?_|(refine aB ?_;refine TL.pure rfl rfl ?_)|(refine aD ?_;refine TL.pure rfl rfl ?_)|(refine aU ?_;refine bE rfl yB (by exact rfl) rfl ?_)|refine TL.nil ?_|refine aA ?_|refine aJ ?_|refine aC ?_|(refine aH ?_;refine TL.pure rfl rfl ?_)|(refine aP ?_;(refine aY rfl rfl yB (by exact rfl) (by exact rfl) (by exact rfl) ?_;intro w' hu hbk hsz))|(refine bD ?_;(refine TL.alloc rfl rfl ?_;intro bk w' hg hbk hsz hsz'))|refine TL.pure rfl rfl ?_)
 refine aI rfl (last_c _ 1 a7 n7 c7 [5] _ (hs7.grow yG)) rfl ?_
 rintro _ w8 ⟨rfl,hg8⟩
 repeat (first|refine aX rfl rfl rfl ?_|(refine aD ?_;refine TL.pure rfl rfl ?_)|refine TL.nil ?_|refine aA ?_|(refine aH ?_;refine TL.pure rfl rfl ?_)|refine bC ?_|refine TL.pure rfl rfl ?_)
 exact cF rfl ⟨_,rfl,rfl,yG⟩
end Go.Proofs.YtfpadnmdafiddaaGreatDoor.vers
