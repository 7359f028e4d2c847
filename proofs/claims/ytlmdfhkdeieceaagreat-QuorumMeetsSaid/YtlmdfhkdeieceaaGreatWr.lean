import Derived.Test.YtlmdfhkdeieceaaGreatWn
import Derived.Test.YtlmdfhkdeieceaaGreatWq
import Derived.Test.YtlmdfhkdeieceaaGreatWm
set_option linter.all false
set_option maxHeartbeats 16000000
set_option maxRecDepth 100000
namespace Go.Proofs.YtlmdfhkdeieceaaGreat
open Go Go.RowKit Go.V Go.E
set_option maxRecDepth 100000
attribute [local instance] glQ
@[reducible] noncomputable def tabQ:LoopTab:=tabOf ctxq
attribute [local instance] tabQ
theorem hGq:∀ g,Gl.tab g=none:=λ _=>rfl
theorem mixQ:Tryz.prog.follows .mixedOrders=true:=by kernel_rfl
theorem fiQ_at:ctxq.fn.get QM=some fiQ:=by kernel_rfl
noncomputable def cd (u:List Bool):Code:=(sub fiQ.body u).getD .skip
theorem cd_at {u:List Bool} (h:(sub fiQ.body u).isSome=true):sub fiQ.body u=some (cd u):=by
  unfold cd
  cases hs:sub fiQ.body u with
  | none=>rw [hs] at h;cases h
  | some c=>rfl
theorem at_env {w0:World} {n:Nat} {env env':En} {h:H} {nx:Nat} {a:Act} {w:World} (he:∀ t v,env.get t=some v→env'.get t=some v) (hA:At w0 n env' h nx a w):At w0 n env h nx a w:=by
  obtain ⟨ρ,ms,h1,h2,h3,h4⟩:=hA
  exact ⟨ρ,ms,⟨h1.size,λ t v ht=>h1.get t v (he t v ht),h1.gl⟩,h2,h3,h4⟩
theorem at_heap {w0:World} {n:Nat} {env:En} {h h':H} {nx:Nat} {a:Act} {w:World} (he:h.get=h'.get) (hA:At w0 n env h' nx a w):At w0 n env h nx a w:=by
  unfold At at *
  rw [he]
  exact hA
def en3 (n:Nat) (v6:V):En:=.nd (.nd (.nd .lf (some (.at (.int .i64 n))) .lf) none .lf) none (.nd (.nd .lf (some (.at (.ptr 0 0))) .lf) none (.nd .lf (some v6) .lf))
def en2 (n:Nat):En:=.nd (.nd (.nd .lf (some (.at (.int .i64 n))) .lf) none .lf) none (.nd (.nd .lf (some (.at (.ptr 0 0))) .lf) none .lf)
def en0 (n:Nat):En:=.nd (.nd (.nd .lf (some (.at (.int .i64 n))) .lf) none .lf) none .lf
theorem en3_get (n:Nat) (v6:V) (t:Nat):(en3 n v6).get t=if t=3 then some (.at (.int .i64 n)) else if t=4 then some (.at (.ptr 0 0)) else if t=6 then some v6 else none:=by
  unfold en3
  simp only [Tr.get_nd]
  repeat' split
  all_goals first|rfl|omega
theorem en2_get (n:Nat) (t:Nat):(en2 n).get t=if t=3 then some (.at (.int .i64 n)) else if t=4 then some (.at (.ptr 0 0)) else none:=by
  unfold en2
  simp only [Tr.get_nd]
  repeat' split
  all_goals first|rfl|omega
theorem en0_get (n:Nat) (t:Nat):(en0 n).get t=if t=3 then some (.at (.int .i64 n)) else none:=by
  unfold en0
  simp only [Tr.get_nd]
  repeat' split
  all_goals first|rfl|omega
theorem en3_s (n:Nat) (v6:V):S.EnvS (env3 n 0 v6) (en3 n v6):=λ t ht=>by
  unfold env3
  rw [slot_e2Of _ ht,en3_get]
  repeat' split
  all_goals rfl
theorem en2_s (n:Nat):S.EnvS (env3 n 0 .undef) (en2 n):=λ t ht=>by
  unfold env3
  rw [slot_e2Of _ ht,en2_get]
  repeat' split
  all_goals rfl
theorem en0_s (n:Nat):S.EnvS (e2Of λ t=>if t=3 then .at (.int .i64 n) else .undef) (en0 n):=λ t ht=>by
  rw [slot_e2Of _ ht,en0_get]
  repeat' split
  all_goals rfl
theorem seg_run {t : Tr S.TE} (ht : S.TabOk ctxq t) {u : List Bool} (hs : (sub fiQ.body u).isSome = true) (hn : Nat.ble (S.need (cd u)) 1000000000 = true) {e : E2} {env : En} {h : H} {nx : Nat} {K : X → E2 → S.M2 → Bool} (he : S.EnvS e env) (H : sg t u e h nx K = true) :
    ∃ x env' h' nx',GoesC Tryz.prog 0 0 (cd u) fiQ.n env h nx x env' h' nx'∧∃ e',S.EnvS e' env'∧K x e' (.mk h' nx')=true:=by
  have hsub:=cd_at hs
  have H:S.segK ctxq t 200 QM fiQ.n u (cd u) e h nx K=true:=H
  have H2:=S.segK_ok (k':=λ x env h nx=>@decide (∃ e',S.EnvS e' env∧K x e' (.mk h nx)=true) (Classical.propDecidable _)) ht (Nat.le_of_ble_eq_true hn) he (λ x e env h nx he hk=>@decide_eq_true _ (Classical.propDecidable _) ⟨e,he,hk⟩) H
  have hC:CallOk false Tryz.prog ctxq (callN false ctxq true 200):=callN_ok ctxq_ok (tabOf_ok ctxq) true (λ C hC=>drawn_ok mixQ ctxq_ok.ty hC true) 200
  rcases evC_ok ctxq_ok.ty hC true (drawn_ok mixQ ctxq_ok.ty hC true) (Nat.le_refl _) QM fiQ.body fiQ.n (λ u g ps a b hu=>tabOf_ok ctxq QM fiQ u g ps a b fiQ_at hu) 1000000000 u (cd u) env h nx _ (sub_code (ctxq_ok.fn QM fiQ fiQ_at).code hsub) hsub with e1|⟨x,env',h',nx',hg,e1⟩
  . rw [H2] at e1;cases e1
  . exact ⟨x,env',h',nx',hg,@of_decide_eq_true _ (Classical.propDecidable _) (e1.symm.trans H2)⟩
theorem norm_t {k:E2→H→Nat→Bool} {x:X} {e:E2} {h:H} {nx:Nat} (H:norm k x e (.mk h nx)=true):x=.normal∧k e h nx=true:=by
  cases x with
  | normal=>exact ⟨rfl,H⟩
  | exit _=>cases H
  | ret=>cases H
theorem like_ok {n k:Nat} {h h1:H} {nx nx1:Nat} {chk:V→Bool} (hchk:∀ v,chk v=true→v=.at (.int .i64 k)) {e1:E2} {env1:En} (he:S.EnvS e1 env1) (H:likeQ n h nx chk e1 h1=true) {w0:World} {a:Act} {w:World} (hA:At w0 fiQ.n env1 h1 nx1 a w):At w0 fiQ.n (en3 n (.at (.int .i64 k))) h nx a w:=by
  unfold likeQ at H
  split at H
  . rename_i n1 b1 h3 h4
    obtain ⟨g1,H⟩:=S.iF_t H
    obtain ⟨ψ,φ,H⟩:=reachK_k H
    obtain ⟨g2,H⟩:=S.iF_t H
    obtain ⟨g3,H⟩:=S.iF_t H
    obtain ⟨g4,H⟩:=S.iF_t H
    have g5:=hchk _ H
    have g1:=Nat.eq_of_beq_eq_true g1
    subst g1
    have hk:∀ k:Nat,isoV ψ (.at (.int .i64 k)) (.at (.int .i64 k))=true:=λ k=>by
      show two (kEq .i64 .i64) (Nat.beq k k)=true
      rw [Nat.beq_refl];rfl
    refine at_heap (h':=keepH ψ h) (funext λ b=>?_) (At.iso hGq g3 (λ t v ht=>?_) hA)
    . rw [keepH_get]
      cases hb:h.get b with
      | none=>simp
      | some B=>rw [Tr.allB_get g4 b B hb];rfl
    . rw [en3_get] at ht
      split at ht
      . rename_i e;subst e;cases ht
        exact ⟨_,(he.get 3 (by rw [h3];simp)).trans (congrArg some h3),hk _⟩
      . split at ht
        . rename_i e;subst e;cases ht
          refine ⟨_,(he.get 4 (by rw [h4];simp)).trans (congrArg some h4),?_⟩
          show two (isoP ψ 0 b1) (Nat.beq 0 0)=true
          rw [g2];rfl
        . split at ht
          . rename_i e;subst e;cases ht
            exact ⟨_,(he.get 6 (by rw [g5];simp)).trans (congrArg some g5),hk _⟩
          . cases ht
  . cases H
def TurnOk (n:Nat) (h:H) (nx:Nat) (h':H) (nx':Nat):Prop:=∀ w0 k a w,At w0 fiQ.n (en3 n (.at (.int .i64 k))) h nx a w→∀ Q:Exit→Act→World→Prop,(∀ a' w',At w0 fiQ.n (en3 n (.at (.int .i64 k))) h' nx' a' w'→Q .normal a' w')→(cd (false::true::LP)).wpIn (FR none) 0 Tryz.prog Q a w
theorem turn_ok {n:Nat} {h:H} {nx:Nat} {h':H} {nx':Nat} (H:∀ v6 chk,S.tabK ctxq usedL .lf (λ tab=>turnQ tab n h nx h' nx' v6 chk)=chk v6):TurnOk n h nx h' nx':=by
  intro w0 k a w hA Q hQ
  have H:=H (.at (.int .i64 k)) (λ v=>@decide (v=.at (.int .i64 k)) (Classical.propDecidable _))
  rw [@decide_eq_true _ (Classical.propDecidable _) rfl] at H
  obtain ⟨t,ht,H⟩:=S.tabK_ok conTq_p (λ f F hF=>by cases hF) H
  unfold turnQ at H
  obtain ⟨x,env',h1,nx1,hg,e',he',H⟩:=seg_run ht (by kernel_rfl) (by kernel_rfl) (en3_s n _) H
  obtain ⟨q1,g11⟩:=norm_t H
  clear H
  subst q1
  have H:=g11
  exact At.goes hA hg.wp λ a' w' hA'=>hQ a' w' (like_ok (λ v hv=>@of_decide_eq_true _ (Classical.propDecidable _) hv) he' H hA')
noncomputable def small (u:List Bool) (n k:Nat) (h:H) (nx:Nat) (c:X→V→V→V→H→Nat→Bool):Bool:=evC false (callN false ctxq true 200) ctxq true 0 0 QM fiQ.n 1000 u (cd u) (en3 n (.at (.int .i64 k))) h nx λ x e h nx=>match e.get 3,e.get 4,e.get 6 with
  | some a,some b,some d=>c x a b d h nx
  | _,_,_=>false
theorem small_goes {u : List Bool} (hs : (sub fiQ.body u).isSome = true) {n k k' : Nat} {h : H} {nx : Nat} {X0 : X} (H : ∀ c, small u n k h nx c = c X0 (.at (.int .i64 n)) (.at (.ptr 0 0)) (.at (.int .i64 k')) h nx) {w0 : World} {a : Act} {w : World} (hA : At w0 fiQ.n (en3 n (.at (.int .i64 k))) h nx a w)
    {Q:Exit→Act→World→Prop} (hQ:∀ a' w',At w0 fiQ.n (en3 n (.at (.int .i64 k'))) h nx a' w'→Q (xOf X0) a' w'):(cd u).wpIn (FR none) 0 Tryz.prog Q a w:=by
  have hsub:=cd_at hs
  have H:=H λ x a b d h' nx'=>@decide (x=X0∧a=.at (.int .i64 n)∧b=.at (.ptr 0 0)∧d=.at (.int .i64 k')∧h'=h∧nx'=nx) (Classical.propDecidable _)
  rw [@decide_eq_true _ (Classical.propDecidable _) ⟨rfl,rfl,rfl,rfl,rfl,rfl⟩] at H
  unfold small at H
  have hC:CallOk false Tryz.prog ctxq (callN false ctxq true 200):=callN_ok ctxq_ok (tabOf_ok ctxq) true (λ C hC=>drawn_ok mixQ ctxq_ok.ty hC true) 200
  rcases evC_ok ctxq_ok.ty hC true (drawn_ok mixQ ctxq_ok.ty hC true) (Nat.le_refl _) QM fiQ.body fiQ.n (λ u g ps a b hu=>tabOf_ok ctxq QM fiQ u g ps a b fiQ_at hu) 1000 u (cd u) _ h nx _ (sub_code (ctxq_ok.fn QM fiQ fiQ_at).code hsub) hsub with e1|⟨x,env',h',nx',hg,e1⟩
  . rw [H] at e1;cases e1
  . have e2:=e1.symm.trans H
    split at e2
    . rename_i p q r h3 h4 h6
      obtain ⟨rfl,rfl,rfl,rfl,rfl,rfl⟩:=@of_decide_eq_true _ (Classical.propDecidable _) e2
      refine At.goes hA hg.wp λ a' w' hA'=>hQ a' w' (at_env (λ t v ht=>?_) hA')
      rw [en3_get] at ht
      split at ht
      . rename_i e;subst e;exact h3.trans ht
      . split at ht
        . rename_i e;subst e;exact h4.trans ht
        . split at ht
          . rename_i e;subst e;exact h6.trans ht
          . cases ht
    . cases e2
theorem small_a (n:Nat) (h:H) (nx:Nat) (c:X→V→V→V→H→Nat→Bool):∀ k,k<40→small (false::LP) n k h nx c=c .normal (.at (.int .i64 n)) (.at (.ptr 0 0)) (.at (.int .i64 k)) h nx
  | 0,_=>by kernel_rfl
  | 1,_=>by kernel_rfl
  | 2,_=>by kernel_rfl
  | 3,_=>by kernel_rfl
  | 4,_=>by kernel_rfl
  | 5,_=>by kernel_rfl
  | 6,_=>by kernel_rfl
  | 7,_=>by kernel_rfl
  | 8,_=>by kernel_rfl
  | 9,_=>by kernel_rfl
  | 10,_=>by kernel_rfl
  | 11,_=>by kernel_rfl
  | 12,_=>by kernel_rfl
  | 13,_=>by kernel_rfl
  | 14,_=>by kernel_rfl
  | 15,_=>by kernel_rfl
  | 16,_=>by kernel_rfl
  | 17,_=>by kernel_rfl
  | 18,_=>by kernel_rfl
  | 19,_=>by kernel_rfl
  | 20,_=>by kernel_rfl
  | 21,_=>by kernel_rfl
  | 22,_=>by kernel_rfl
  | 23,_=>by kernel_rfl
  | 24,_=>by kernel_rfl
  | 25,_=>by kernel_rfl
  | 26,_=>by kernel_rfl
  | 27,_=>by kernel_rfl
  | 28,_=>by kernel_rfl
  | 29,_=>by kernel_rfl
  | 30,_=>by kernel_rfl
  | 31,_=>by kernel_rfl
  | 32,_=>by kernel_rfl
  | 33,_=>by kernel_rfl
  | 34,_=>by kernel_rfl
  | 35,_=>by kernel_rfl
  | 36,_=>by kernel_rfl
  | 37,_=>by kernel_rfl
  | 38,_=>by kernel_rfl
  | 39,_=>by kernel_rfl
  | k+40,hk=>absurd hk (by omega)
theorem small_x (n:Nat) (h:H) (nx:Nat) (c):small (false::LP) n 40 h nx c=c (.exit 2) (.at (.int .i64 n)) (.at (.ptr 0 0)) (.at (.int .i64 40)) h nx:=by kernel_rfl
theorem small_b (n:Nat) (h:H) (nx:Nat) (c:X→V→V→V→H→Nat→Bool):∀ k,k<40→small (true::true::LP) n k h nx c=c .normal (.at (.int .i64 n)) (.at (.ptr 0 0)) (.at (.int .i64 (k+1))) h nx
  | 0,_=>by kernel_rfl
  | 1,_=>by kernel_rfl
  | 2,_=>by kernel_rfl
  | 3,_=>by kernel_rfl
  | 4,_=>by kernel_rfl
  | 5,_=>by kernel_rfl
  | 6,_=>by kernel_rfl
  | 7,_=>by kernel_rfl
  | 8,_=>by kernel_rfl
  | 9,_=>by kernel_rfl
  | 10,_=>by kernel_rfl
  | 11,_=>by kernel_rfl
  | 12,_=>by kernel_rfl
  | 13,_=>by kernel_rfl
  | 14,_=>by kernel_rfl
  | 15,_=>by kernel_rfl
  | 16,_=>by kernel_rfl
  | 17,_=>by kernel_rfl
  | 18,_=>by kernel_rfl
  | 19,_=>by kernel_rfl
  | 20,_=>by kernel_rfl
  | 21,_=>by kernel_rfl
  | 22,_=>by kernel_rfl
  | 23,_=>by kernel_rfl
  | 24,_=>by kernel_rfl
  | 25,_=>by kernel_rfl
  | 26,_=>by kernel_rfl
  | 27,_=>by kernel_rfl
  | 28,_=>by kernel_rfl
  | 29,_=>by kernel_rfl
  | 30,_=>by kernel_rfl
  | 31,_=>by kernel_rfl
  | 32,_=>by kernel_rfl
  | 33,_=>by kernel_rfl
  | 34,_=>by kernel_rfl
  | 35,_=>by kernel_rfl
  | 36,_=>by kernel_rfl
  | 37,_=>by kernel_rfl
  | 38,_=>by kernel_rfl
  | 39,_=>by kernel_rfl
  | k+40,hk=>absurd hk (by omega)
theorem LP_eq:cd LP=.seq (cd (false::LP)) (.seq (cd (false::true::LP)) (cd (true::true::LP))):=by kernel_rfl
theorem loop_ok {n : Nat} (st : Nat → H × Nat) (hT : ∀ k, k < 40 → TurnOk n (st k).1 (st k).2 (st (k + 1)).1 (st (k + 1)).2) {w0 : World} {Q : Exit → Act → World → Prop} (hQ : ∀ a' w', At w0 fiQ.n (en3 n (.at (.int .i64 40))) (st 40).1 (st 40).2 a' w' → Q (.exit 2) a' w') :
    ∀ j k,k+j=40→∀ a w,At w0 fiQ.n (en3 n (.at (.int .i64 k))) (st k).1 (st k).2 a w→Code.roundsIn (FR none) 0 Tryz.prog (cd LP) Q (j+1) a w:=by
  intro j
  induction j with
  | zero =>
    intro k hk a w hA
    have:k=40:=by omega
    subst this
    refine rounds_one ?_
    rw [LP_eq]
    exact wpIn_seq (small_goes (by kernel_rfl) (small_x n _ _) hA λ a' w' hA'=>hQ a' w' hA')
  | succ j ih =>
    intro k hk a w hA
    refine rounds_one ?_
    rw [LP_eq]
    refine wpIn_seq (small_goes (by kernel_rfl) (λ c=>small_a n _ _ c k (by omega)) hA λ a1 w1 hA1=>?_)
    refine wpIn_seq (hT k (by omega) w0 k a1 w1 hA1 _ λ a2 w2 hA2=>?_)
    refine small_goes (by kernel_rfl) (λ c=>small_b n _ _ c k (by omega)) hA2 λ a3 w3 hA3=>?_
    exact ih (k+1) (by omega) a3 w3 hA3
theorem ends_ok {n : Nat} {h : H} {nx : Nat} (H : S.tabK ctxq usedL .lf (fun tab => endsQ tab n h nx) = true) {fn : Func} (hres : fn.results = fiQ.res.toArray) {w0 : World} {v6 : V} {a : Act} {w : World} (hA : At w0 fiQ.n (en3 n v6) h nx a w) :
    (cd [true,true,true,true,true,true]).wpIn (FR none) 0 Tryz.prog (bodyPostM Fence.wide 0 Tryz.prog fn (Ret λ x w'=>x=.bool true∧Grow w0 w')) a w:=by
  obtain ⟨t,ht,H⟩:=S.tabK_ok conTq_p (λ f F hF=>by cases hF) H
  unfold endsQ at H
  obtain ⟨x,env',h1,nx1,hg,e',he',H⟩:=seg_run ht (by kernel_rfl) (by kernel_rfl) (en2_s n) H
  have hA2:At w0 fiQ.n (en2 n) h nx a w:=at_env (λ t v ht=>by
    rw [en2_get] at ht
    rw [en3_get]
    split at ht
    . rename_i e;rw [if_pos e];exact ht
    . rename_i e
      rw [if_neg e]
      split at ht
      . rename_i e;rw [if_pos e];exact ht
      . cases ht) hA
  cases x with
  | normal=>cases H
  | exit _=>cases H
  | ret =>
    refine At.goes hA2 hg.wp λ a' w' hA'=>At.ends hGq ctxq_ok hres hA' ?_
    have H:isT (slot e' 2)=true:=H
    have h2:=he'.get 2 (by intro e;rw [e] at H;cases H)
    show resK false ctxq true env' h1 [.tmp 2] (λ vs=>isT (packV vs))=true
    unfold resK
    rw [h2]
    exact H
def lastR:List Bool:=[true,true,true]
theorem rest_eq:cd [true,true,true]=.seq (cd [false,true,true,true]) (.seq (cd [false,true,true,true,true]) (.seq (.seq (cd [false,false,true,true,true,true,true]) (.block 2 (.loop (cd LP)))) (cd [true,true,true,true,true,true]))):=by kernel_rfl
theorem start_ok {n : Nat} {h : H} {nx : Nat} (H : S.tabK ctxq usedL .lf (fun tab => startQ tab n h nx) = true) {w0 : World} {a : Act} {w : World} (hA : At w0 fiQ.n (en0 n) .lf 0 a w) {Q Q1 Q2 : Exit → Act → World → Prop} {K : Act → World → Prop} (hK : ∀ a' w', At w0 fiQ.n (en3 n (.at (.int .i64 0))) h nx a' w' → K a' w') :
    (cd [false,true,true,true]).wpIn (FR none) 0 Tryz.prog (Exit.then ((cd [false,true,true,true,true]).wpIn (FR none) 0 Tryz.prog (Exit.then ((cd [false,false,true,true,true,true,true]).wpIn (FR none) 0 Tryz.prog (Exit.then K Q2)) Q1)) Q) a w:=by
  obtain ⟨t,ht,H⟩:=S.tabK_ok conTq_p (λ f F hF=>by cases hF) H
  unfold startQ at H
  obtain ⟨x,env1,h1,nx1,hg,e1,he1,H⟩:=seg_run ht (by kernel_rfl) (by kernel_rfl) (en0_s n) H
  obtain ⟨q2,g12⟩:=norm_t H
  clear H
  subst q2
  have H:=g12
  refine At.goes hA hg.wp λ a1 w1 hA1=>?_
  obtain ⟨x,env2,h2,nx2,hg,e2,he2,H⟩:=seg_run (u:=[false,true,true,true,true]) ht (by kernel_rfl) (by kernel_rfl) he1 H
  obtain ⟨q3,g13⟩:=norm_t H
  clear H
  subst q3
  have H:=g13
  refine At.goes hA1 hg.wp λ a2 w2 hA2=>?_
  obtain ⟨x,env3,h3,nx3,hg,e3,he3,H⟩:=seg_run (u:=[false,false,true,true,true,true,true]) ht (by kernel_rfl) (by kernel_rfl) he2 H
  obtain ⟨q4,g14⟩:=norm_t H
  clear H
  subst q4
  have H:=g14
  refine At.goes hA2 hg.wp λ a3 w3 hA3=>hK a3 w3 (like_ok (λ v hv=>?_) he3 H hA3)
  split at hv
  . rfl
  . cases hv
theorem rest_ok {n : Nat} (st : Nat → H × Nat) (hS : S.tabK ctxq usedL .lf (fun tab => startQ tab n (st 0).1 (st 0).2) = true) (hT : ∀ k, k < 40 → TurnOk n (st k).1 (st k).2 (st (k + 1)).1 (st (k + 1)).2) (hE : S.tabK ctxq usedL .lf (fun tab => endsQ tab n (st 40).1 (st 40).2) = true)
    {fn:Func} (hres:fn.results=fiQ.res.toArray) {w0:World} {a:Act} {w:World} (hA:At w0 fiQ.n (en0 n) .lf 0 a w):(cd [true,true,true]).wpIn (FR none) 0 Tryz.prog (bodyPostM Fence.wide 0 Tryz.prog fn (Ret λ x w'=>x=.bool true∧Grow w0 w')) a w:=by
  rw [rest_eq]
  refine wpIn_seq ?_
  have key:=start_ok (K:=λ a1 w1=>(Code.block 2 (.loop (cd LP))).wpIn (FR none) 0 Tryz.prog (Exit.then ((cd [true,true,true,true,true,true]).wpIn (FR none) 0 Tryz.prog (bodyPostM Fence.wide 0 Tryz.prog fn (Ret λ x w'=>x=.bool true∧Grow w0 w'))) (bodyPostM Fence.wide 0 Tryz.prog fn (Ret λ x w'=>x=.bool true∧Grow w0 w'))) a1 w1)
    (Q:=bodyPostM Fence.wide 0 Tryz.prog fn (Ret λ x w'=>x=.bool true∧Grow w0 w')) (Q1:=bodyPostM Fence.wide 0 Tryz.prog fn (Ret λ x w'=>x=.bool true∧Grow w0 w')) (Q2:=Exit.then ((cd [true,true,true,true,true,true]).wpIn (FR none) 0 Tryz.prog (bodyPostM Fence.wide 0 Tryz.prog fn (Ret λ x w'=>x=.bool true∧Grow w0 w'))) (bodyPostM Fence.wide 0 Tryz.prog fn (Ret λ x w'=>x=.bool true∧Grow w0 w'))) hS hA λ a1 w1 hA1=>?_
  . refine Go.wpIn_mono key λ ex a1 w1 h1=>?_
    cases ex<;>first|exact h1|skip
    refine wpIn_seq (Go.wpIn_mono h1 λ ex a2 w2 h2=>?_)
    cases ex<;>first|exact h2|skip
    exact wpIn_seq (wpIn_seq h2)
  . refine wpIn_block (wpIn_loop_rounds 41 (loop_ok st hT (λ a2 w2 hA2=>?_) 40 0 rfl a1 w1 hA1))
    show Exit.inBlock 2 _ (.exit 2) a2 w2
    simp only [Exit.inBlock,if_true]
    exact ends_ok hE hres hA2
end Go.Proofs.YtlmdfhkdeieceaaGreat
namespace Go.Proofs.YtlmdfhkdeieceaaGreat
open Go Go.RowKit Go.V Go.E
set_option maxRecDepth 100000
attribute [local instance] glQ
attribute [local instance] tabQ
def MP:List Bool:=true::false::false::true::LP
def env7 (n i:Nat) (v6:V):E2:=e2Of λ t=>if t=3 then .at (.int .i64 n) else if t=4 then .at (.ptr 0 0) else if t=6 then v6 else if t=7 then .at (.int .i64 i) else .undef
def en7 (n i:Nat) (v6:V):En:=.nd (.nd (.nd (.nd .lf (some (.at (.int .i64 i))) .lf) (some (.at (.int .i64 n))) .lf) none .lf) none (.nd (.nd .lf (some (.at (.ptr 0 0))) .lf) none (.nd .lf (some v6) .lf))
theorem en7_get (n i:Nat) (v6:V) (t:Nat):(en7 n i v6).get t=if t=3 then some (.at (.int .i64 n)) else if t=4 then some (.at (.ptr 0 0)) else if t=6 then some v6 else if t=7 then some (.at (.int .i64 i)) else none:=by
  unfold en7
  simp only [Tr.get_nd]
  repeat' split
  all_goals first|rfl|omega
theorem en7_s (n i:Nat) (v6:V):S.EnvS (env7 n i v6) (en7 n i v6):=λ t ht=>by
  unfold env7
  rw [slot_e2Of _ ht,en7_get]
  repeat' split
  all_goals rfl
noncomputable def rndQ (tab:Tr S.TE):Nat→E2→H→Nat→(E2→H→Nat→Bool)→Bool
  | 0,e,h,nx,k=>k e h nx
  | c+1,e,h,nx,k=>sg tab (false::false::MP) e h nx (norm λ e h nx=>rndQ tab c e h nx k)
def is7 (i:Nat):V→Bool
  | .at (.int .i64 j)=>Nat.beq j i
  | _=>false
noncomputable def midQ (tab:Tr S.TE) (n i c:Nat) (h:H) (nx:Nat) (h':H) (nx':Nat) (v6:V) (chk:V→Bool):Bool:=rndQ tab c (env7 n i v6) h nx λ e h _=>S.iF (is7 (i+c) (slot e 7)) (likeQ n h' nx' chk e h) false
noncomputable def lastQ (tab:Tr S.TE) (n i:Nat) (h:H) (nx:Nat) (h':H) (nx':Nat) (v6:V) (chk:V→Bool):Bool:=sg tab (false::MP) (env7 n i v6) h nx λ x e m=>match x with|.exit 4=>S.mH m λ h _=>likeQ n h' nx' chk e h|_=>false
theorem is7_ok {i:Nat} {v:V} (h:is7 i v=true):v=.at (.int .i64 i):=by
  unfold is7 at h
  split at h
  . rw [Nat.eq_of_beq_eq_true h]
  . cases h
theorem like7_ok {n k i:Nat} {h h1:H} {nx nx1:Nat} {chk:V→Bool} (hchk:∀ v,chk v=true→v=.at (.int .i64 k)) {e1:E2} {env1:En} (he:S.EnvS e1 env1) (H7:slot e1 7=.at (.int .i64 i)) (H:likeQ n h nx chk e1 h1=true) {w0:World} {a:Act} {w:World} (hA:At w0 fiQ.n env1 h1 nx1 a w):At w0 fiQ.n (en7 n i (.at (.int .i64 k))) h nx a w:=by
  unfold likeQ at H
  split at H
  . rename_i n1 b1 h3 h4
    obtain ⟨g1,H⟩:=S.iF_t H
    obtain ⟨ψ,φ,H⟩:=reachK_k H
    obtain ⟨g2,H⟩:=S.iF_t H
    obtain ⟨g3,H⟩:=S.iF_t H
    obtain ⟨g4,H⟩:=S.iF_t H
    have g5:=hchk _ H
    have g1:=Nat.eq_of_beq_eq_true g1
    subst g1
    have hk:∀ k:Nat,isoV ψ (.at (.int .i64 k)) (.at (.int .i64 k))=true:=λ k=>by
      show two (kEq .i64 .i64) (Nat.beq k k)=true
      rw [Nat.beq_refl];rfl
    refine at_heap (h':=keepH ψ h) (funext λ b=>?_) (At.iso hGq g3 (λ t v ht=>?_) hA)
    . rw [keepH_get]
      cases hb:h.get b with
      | none=>simp
      | some B=>rw [Tr.allB_get g4 b B hb];rfl
    . rw [en7_get] at ht
      split at ht
      . rename_i e;subst e;cases ht
        exact ⟨_,(he.get 3 (by rw [h3];simp)).trans (congrArg some h3),hk _⟩
      . split at ht
        . rename_i e;subst e;cases ht
          refine ⟨_,(he.get 4 (by rw [h4];simp)).trans (congrArg some h4),?_⟩
          show two (isoP ψ 0 b1) (Nat.beq 0 0)=true
          rw [g2];rfl
        . split at ht
          . rename_i e;subst e;cases ht
            exact ⟨_,(he.get 6 (by rw [g5];simp)).trans (congrArg some g5),hk _⟩
          . split at ht
            . rename_i e;subst e;cases ht
              exact ⟨_,(he.get 7 (by rw [H7];simp)).trans (congrArg some H7),hk _⟩
            . cases ht
  . cases H
def MidOk (n i c:Nat) (h:H) (nx:Nat) (h':H) (nx':Nat):Prop:=∀ w0 k a w,At w0 fiQ.n (en7 n i (.at (.int .i64 k))) h nx a w→∀ (Q:Exit→Act→World→Prop) (m:Nat),(∀ a' w',At w0 fiQ.n (en7 n (i+c) (.at (.int .i64 k))) h' nx' a' w'→Code.roundsIn (FR none) 0 Tryz.prog (cd (false::false::MP)) Q m a' w')→Code.roundsIn (FR none) 0 Tryz.prog (cd (false::false::MP)) Q (m+c) a w
def LastOk (n i:Nat) (h:H) (nx:Nat) (h':H) (nx':Nat):Prop:=∀ k:Nat,∃ m:Nat,∀ w0 a w,At w0 fiQ.n (en7 n i (.at (.int .i64 k))) h nx a w→∀ Q:Exit→Act→World→Prop,(∀ a' w',At w0 fiQ.n (en3 n (.at (.int .i64 k))) h' nx' a' w'→Q (.exit 4) a' w')→Code.roundsIn (FR none) 0 Tryz.prog (cd (false::false::MP)) Q m a w
theorem rnd_ok {t : Tr S.TE} (ht : S.TabOk ctxq t) {w0 : World} {Q : Exit → Act → World → Prop} {m : Nat} {K : E2 → H → Nat → Bool} (hK : ∀ e env h nx, S.EnvS e env → K e h nx = true → ∀ a w, At w0 fiQ.n env h nx a w → Code.roundsIn (FR none) 0 Tryz.prog (cd (false :: false :: MP)) Q m a w) :
    ∀ (c:Nat) (e:E2) (env:En) (h:H) (nx:Nat),S.EnvS e env→rndQ t c e h nx K=true→∀ a w,At w0 fiQ.n env h nx a w→Code.roundsIn (FR none) 0 Tryz.prog (cd (false::false::MP)) Q (m+c) a w
  | 0,e,env,h,nx,he,H,a,w,hA=>hK e env h nx he H a w hA
  | c+1,e,env,h,nx,he,H,a,w,hA=>by
    unfold rndQ at H
    obtain ⟨x,env1,h1,nx1,hg,e1,he1,H1⟩:=seg_run ht (by kernel_rfl) (by kernel_rfl) he H
    obtain ⟨q,H2⟩:=norm_t H1
    subst q
    refine rounds_one (m:=m+c) (At.goes hA hg.wp λ a1 w1 hA1=>?_)
    exact rnd_ok ht hK c e1 env1 h1 nx1 he1 H2 a1 w1 hA1
theorem mid_ok {n i c:Nat} {h:H} {nx:Nat} {h':H} {nx':Nat} (H:∀ v6 chk,S.tabK ctxq usedL .lf (λ tab=>midQ tab n i c h nx h' nx' v6 chk)=chk v6):MidOk n i c h nx h' nx':=by
  intro w0 k a w hA Q m hQ
  have H:=H (.at (.int .i64 k)) (λ v=>@decide (v=.at (.int .i64 k)) (Classical.propDecidable _))
  rw [@decide_eq_true _ (Classical.propDecidable _) rfl] at H
  obtain ⟨t,ht,H⟩:=S.tabK_ok conTq_p (λ f F hF=>by cases hF) H
  unfold midQ at H
  refine rnd_ok ht (λ e env h nx he H a w hA=>?_) c _ _ h nx (en7_s n i _) H a w hA
  obtain ⟨g7,H⟩:=S.iF_t H
  exact hQ a w (like7_ok (λ v hv=>@of_decide_eq_true _ (Classical.propDecidable _) hv) he (is7_ok g7) H hA)
theorem MP_eq:cd (false::MP)=.loop (cd (false::false::MP)):=by kernel_rfl
theorem last_ok {n i:Nat} {h:H} {nx:Nat} {h':H} {nx':Nat} (H:∀ v6 chk,S.tabK ctxq usedL .lf (λ tab=>lastQ tab n i h nx h' nx' v6 chk)=chk v6):LastOk n i h nx h' nx':=by
  intro k
  have H:=H (.at (.int .i64 k)) (λ v=>@decide (v=.at (.int .i64 k)) (Classical.propDecidable _))
  rw [@decide_eq_true _ (Classical.propDecidable _) rfl] at H
  obtain ⟨t,ht,H⟩:=S.tabK_ok conTq_p (λ f F hF=>by cases hF) H
  unfold lastQ at H
  obtain ⟨x,env',h1,nx1,hg,e',he',H1⟩:=seg_run ht (by kernel_rfl) (by kernel_rfl) (en7_s n i _) H
  rw [MP_eq] at hg
  obtain ⟨r,hg⟩:=hg
  refine ⟨r,λ w0 a w hA Q hQ=>?_⟩
  split at H1
  . exact At.goes hA hg λ a' w' hA'=>hQ a' w' (like_ok (λ v hv=>@of_decide_eq_true _ (Classical.propDecidable _) hv) he' H1 hA')
  . cases H1
noncomputable def small7 (n k:Nat) (h:H) (nx:Nat) (c:X→V→V→V→V→H→Nat→Bool):Bool:=evC false (callN false ctxq true 200) ctxq true 0 0 QM fiQ.n 1000 (false::false::false::true::LP) (cd (false::false::false::true::LP)) (en3 n (.at (.int .i64 k))) h nx λ x e h nx=>match e.get 3,e.get 4,e.get 6,e.get 7 with
  | some a,some b,some d,some f=>c x a b d f h nx
  | _,_,_,_=>false
theorem small7_run (n k:Nat) (h:H) (nx:Nat) (c):small7 n k h nx c=c .normal (.at (.int .i64 n)) (.at (.ptr 0 0)) (.at (.int .i64 k)) (.at (.int .i64 0)) h nx:=by kernel_rfl
theorem small7_goes {n k : Nat} {h : H} {nx : Nat} {w0 : World} {a : Act} {w : World} (hA : At w0 fiQ.n (en3 n (.at (.int .i64 k))) h nx a w)
    {Q:Exit→Act→World→Prop} (hQ:∀ a' w',At w0 fiQ.n (en7 n 0 (.at (.int .i64 k))) h nx a' w'→Q .normal a' w'):(cd (false::false::false::true::LP)).wpIn (FR none) 0 Tryz.prog Q a w:=by
  have hsub:=cd_at (u:=false::false::false::true::LP) (by kernel_rfl)
  have H:=small7_run n k h nx λ x a b d f h' nx'=>@decide (x=.normal∧a=.at (.int .i64 n)∧b=.at (.ptr 0 0)∧d=.at (.int .i64 k)∧f=.at (.int .i64 0)∧h'=h∧nx'=nx) (Classical.propDecidable _)
  rw [@decide_eq_true _ (Classical.propDecidable _) ⟨rfl,rfl,rfl,rfl,rfl,rfl,rfl⟩] at H
  unfold small7 at H
  have hC:CallOk false Tryz.prog ctxq (callN false ctxq true 200):=callN_ok ctxq_ok (tabOf_ok ctxq) true (λ C hC=>drawn_ok mixQ ctxq_ok.ty hC true) 200
  rcases evC_ok ctxq_ok.ty hC true (drawn_ok mixQ ctxq_ok.ty hC true) (Nat.le_refl _) QM fiQ.body fiQ.n (λ u g ps a b hu=>tabOf_ok ctxq QM fiQ u g ps a b fiQ_at hu) 1000 _ (cd (false::false::false::true::LP)) _ h nx _ (sub_code (ctxq_ok.fn QM fiQ fiQ_at).code hsub) hsub with e1|⟨x,env',h',nx',hg,e1⟩
  . rw [H] at e1;cases e1
  . have e2:=e1.symm.trans H
    split at e2
    . rename_i p q r s h3 h4 h6 h7
      obtain ⟨rfl,rfl,rfl,rfl,rfl,rfl,rfl⟩:=@of_decide_eq_true _ (Classical.propDecidable _) e2
      refine At.goes hA hg.wp λ a' w' hA'=>hQ a' w' (at_env (λ t v ht=>?_) hA')
      rw [en7_get] at ht
      split at ht
      . rename_i e;subst e;exact h3.trans ht
      . split at ht
        . rename_i e;subst e;exact h4.trans ht
        . split at ht
          . rename_i e;subst e;exact h6.trans ht
          . split at ht
            . rename_i e;subst e;exact h7.trans ht
            . cases ht
    . cases e2
theorem B3_eq:cd (false::true::LP)=.block 3 (.seq (cd (false::false::false::true::LP)) (.block 4 (.loop (cd (false::false::MP))))):=by kernel_rfl
theorem turn_parts {n c:Nat} {h:H} {nx:Nat} {h1:H} {nx1:Nat} {h':H} {nx':Nat} (H1:MidOk n 0 c h nx h1 nx1) (H2:LastOk n (0+c) h1 nx1 h' nx'):TurnOk n h nx h' nx':=by
  intro w0 k a w hA Q hQ
  obtain ⟨m,hm⟩:=H2 k
  rw [B3_eq]
  refine wpIn_block (wpIn_seq (small7_goes hA λ a1 w1 hA1=>?_))
  refine wpIn_block (wpIn_loop_rounds (m+c) (H1 w0 k a1 w1 hA1 _ m λ a2 w2 hA2=>hm w0 a2 w2 hA2 _ λ a3 w3 hA3=>?_))
  show Exit.inBlock 4 _ (.exit 4) a3 w3
  simp only [Exit.inBlock,if_true]
  exact hQ a3 w3 hA3
theorem mid_trans {n i c d:Nat} {h:H} {nx:Nat} {h1:H} {nx1:Nat} {h':H} {nx':Nat} (H1:MidOk n i c h nx h1 nx1) (H2:MidOk n (i+c) d h1 nx1 h' nx'):MidOk n i (c+d) h nx h' nx':=by
  intro w0 k a w hA Q m hQ
  have:=H1 w0 k a w hA Q (m+d) λ a1 w1 hA1=>H2 w0 k a1 w1 hA1 Q m λ a2 w2 hA2=>hQ a2 w2 (by rw [← Nat.add_assoc];exact hA2)
  rwa [show m+(c+d)=m+d+c by omega]
end Go.Proofs.YtlmdfhkdeieceaaGreat
namespace Go.Proofs.YtlmdfhkdeieceaaGreat
open Go Go.E
set_option maxRecDepth 100000
def k0:Rope:=(.nd 1 (.rp 1 .nilSlice) (.rp 1 .nilSlice))
def k1:Rope:=(.nd 1 (.rp 1 (.bool false)) (.rp 1 (.bool false)))
def k2:Rope:=(.nd 1 (.rp 1 (.int .u64 7)) (.rp 1 (.int .u64 0)))
def k3:Rope:=(.nd 32 (.by 32 1) (.nd 1 (.rp 1 (.int .u64 0)) (.by 96 1)))
def k4:Rope:=(.nd 32 (.by 32 2) (.nd 1 (.rp 1 (.int .u64 0)) (.by 96 2)))
def k5:Rope:=(.nd 32 (.by 32 2) (.nd 1 (.rp 1 (.int .u64 0)) (.by 96 1)))
def k6:Rope:=(.nd 32 (.by 32 2) (.nd 1 (.rp 1 (.int .u64 0)) (.by 96 3)))
def k7:Rope:=(.nd 32 (.by 32 1) (.nd 1 (.rp 1 (.int .u64 0)) (.by 96 4)))
def k8:Rope:=(.nd 32 (.by 32 1) (.nd 1 (.rp 1 (.int .u64 0)) (.by 96 2)))
def k9:Rope:=(.nd 32 (.by 32 1) (.nd 1 (.rp 1 (.int .u64 0)) (.by 96 3)))
def k10:Rope:=(.nd 32 (.by 32 3) (.nd 1 (.rp 1 (.int .u64 0)) (.by 96 3)))
def k11:Rope:=(.nd 32 (.by 32 3) (.nd 1 (.rp 1 (.int .u64 0)) (.by 96 1)))
def k12:Rope:=(.nd 32 (.by 32 3) (.nd 1 (.rp 1 (.int .u64 0)) (.by 96 2)))
def k13:Rope:=(.nd 32 (.by 32 3) (.nd 1 (.rp 1 (.int .u64 0)) (.by 96 4)))
def k14:Rope:=(.nd 32 (.by 32 3) (.nd 1 (.rp 1 (.int .u64 0)) (.by 96 5)))
def k15:Rope:=(.nd 32 (.by 32 2) (.nd 1 (.rp 1 (.int .u64 0)) (.by 96 5)))
def k16:Rope:=(.nd 32 (.by 32 2) (.nd 1 (.rp 1 (.int .u64 0)) (.by 96 6)))
def k17:Rope:=(.nd 32 (.by 32 1) (.nd 1 (.rp 1 (.int .u64 0)) (.by 96 5)))
def k18:Rope:=(.nd 32 (.by 32 1) (.nd 1 (.rp 1 (.int .u64 0)) (.by 96 6)))
def k19:Rope:=(.nd 32 (.by 32 1) (.nd 1 (.rp 1 (.int .u64 0)) (.by 96 7)))
def k20:Rope:=(.nd 1 (.rp 1 (.slu 6 0 3 32)) (.nd 1 (.rp 1 (.slu 7 0 3 132)) (.rp 1 .nilSlice)))
def k21:Rope:=(.nd 1 (.rp 1 (.slu 9 0 3 32)) (.nd 1 (.rp 1 (.slu 10 0 5 132)) (.rp 1 .nilSlice)))
def k22:Rope:=(.nd 1 (.rp 1 (.slu 12 0 3 32)) (.nd 1 (.rp 1 (.slu 13 0 7 132)) (.rp 1 .nilSlice)))
def k23:Rope:=(.by 64 231584178474632390847141970017375815706539969331281128078915168015826259279873)
def k24:Rope:=(.nd 1 (.rp 1 (.slu 22 0 2 132)) (.nd 1 (.rp 1 (.slu 23 0 2 132)) (.rp 1 (.slu 24 0 2 132))))
def k25:Rope:=(.nd 1 (.rp 1 (.slu 26 0 1 132)) (.nd 1 (.rp 1 (.slu 27 0 2 132)) (.rp 1 (.slu 28 0 2 132))))
def k26:Rope:=(.nd 2 k1 (.nd 32 (.by 32 0) (.rp 1 (.int .u64 0))))
def k27:Rope:=(.nd 1 (.rp 1 (.int .i64 0)) (.nd 2 k1 (.nd 32 (.by 32 1) (.rp 1 (.int .u64 0)))))
def k28:Rope:=(.nd 1 (.rp 1 (.int .i64 4)) k26)
def k29:Rope:=(.nd 1 (.rp 1 (.int .i64 0)) k26)
def k30:Rope:=(.nd 1 (.rp 1 (.int .i64 0)) (.nd 2 k1 (.nd 32 (.by 32 2) (.rp 1 (.int .u64 0)))))
def k31:Rope:=(.nd 1 (.rp 1 (.int .i64 0)) (.nd 2 k1 (.nd 32 (.by 32 3) (.rp 1 (.int .u64 0)))))
def k32:Rope:=(.nd 2 k2 (.nd 1 (.rp 1 (.int .i64 2)) k3))
def k33:Rope:=(.nd 2 k2 (.nd 1 (.rp 1 (.int .i64 3)) k3))
def k34:Rope:=(.nd 2 k2 (.nd 1 (.rp 1 (.int .i64 1)) k4))
def k35:Rope:=(.nd 2 k2 (.nd 1 (.rp 1 (.int .i64 2)) k4))
def k36:Rope:=(.nd 2 k2 (.nd 1 (.rp 1 (.int .i64 2)) k5))
def k37:Rope:=(.nd 2 k2 (.nd 1 (.rp 1 (.int .i64 3)) k5))
def k38:Rope:=(.nd 2 k2 (.nd 1 (.rp 1 (.int .i64 3)) k4))
def k39:Rope:=(.nd 2 k2 (.nd 1 (.rp 1 (.int .i64 2)) k6))
def k40:Rope:=(.nd 2 k2 (.nd 1 (.rp 1 (.int .i64 3)) k6))
def k41:Rope:=(.nd 2 k2 (.nd 1 (.rp 1 (.int .i64 1)) k7))
def k42:Rope:=(.nd 2 k2 (.nd 1 (.rp 1 (.int .i64 2)) k7))
def k43:Rope:=(.nd 2 k2 (.nd 1 (.rp 1 (.int .i64 2)) k8))
def k44:Rope:=(.nd 2 k2 (.nd 1 (.rp 1 (.int .i64 3)) k8))
def k45:Rope:=(.nd 2 k2 (.nd 1 (.rp 1 (.int .i64 2)) k9))
def k46:Rope:=(.nd 2 k2 (.nd 1 (.rp 1 (.int .i64 3)) k9))
def k47:Rope:=(.nd 2 k2 (.nd 1 (.rp 1 (.int .i64 3)) k7))
def k48:Rope:=(.nd 2 k2 (.nd 1 (.rp 1 (.int .i64 1)) k10))
def k49:Rope:=(.nd 2 k2 (.nd 1 (.rp 1 (.int .i64 2)) k10))
def k50:Rope:=(.nd 2 k2 (.nd 1 (.rp 1 (.int .i64 2)) k11))
def k51:Rope:=(.nd 2 k2 (.nd 1 (.rp 1 (.int .i64 2)) k12))
def k52:Rope:=(.nd 2 k2 (.nd 1 (.rp 1 (.int .i64 2)) k13))
def k53:Rope:=(.nd 2 k2 (.nd 1 (.rp 1 (.int .i64 3)) k13))
def k54:Rope:=(.nd 2 k2 (.nd 1 (.rp 1 (.int .i64 2)) k14))
def k55:Rope:=(.nd 2 k2 (.nd 1 (.rp 1 (.int .i64 3)) k14))
def k56:Rope:=(.nd 2 k2 (.nd 1 (.rp 1 (.int .i64 3)) k11))
def k57:Rope:=(.nd 2 k2 (.nd 1 (.rp 1 (.int .i64 3)) k12))
def k58:Rope:=(.nd 2 k2 (.nd 1 (.rp 1 (.int .i64 2)) (.nd 32 (.by 32 2) (.nd 1 (.rp 1 (.int .u64 0)) (.by 96 4)))))
def k59:Rope:=(.nd 2 k2 (.nd 1 (.rp 1 (.int .i64 2)) k15))
def k60:Rope:=(.nd 2 k2 (.nd 1 (.rp 1 (.int .i64 3)) k15))
def k61:Rope:=(.nd 2 k2 (.nd 1 (.rp 1 (.int .i64 2)) k16))
def k62:Rope:=(.nd 2 k2 (.nd 1 (.rp 1 (.int .i64 3)) k16))
def k63:Rope:=(.nd 2 k2 (.nd 1 (.rp 1 (.int .i64 2)) k17))
def k64:Rope:=(.nd 2 k2 (.nd 1 (.rp 1 (.int .i64 3)) k17))
def k65:Rope:=(.nd 2 k2 (.nd 1 (.rp 1 (.int .i64 2)) k18))
def k66:Rope:=(.nd 2 k2 (.nd 1 (.rp 1 (.int .i64 3)) k18))
def k67:Rope:=(.nd 2 k2 (.nd 1 (.rp 1 (.int .i64 2)) k19))
def k68:Rope:=(.nd 2 k2 (.nd 1 (.rp 1 (.int .i64 3)) k19))
def k69:Rope:=(.nd 1 (.rp 1 (.slu 28 0 1 132)) (.nd 1 (.rp 1 (.slu 29 0 1 132)) (.nd 1 (.rp 1 (.slu 30 0 2 132)) (.nd 1 (.rp 1 (.slu 31 0 2 132)) (.rp 1 (.slu 32 0 2 132))))))
def k70:Rope:=(.by 96 40223423789827791298722074994617538382438097461777180133170684331165292090220872514584097526891557425040112950375164692530592929563918625007316773277532161)
def k71:Rope:=(.by 128 6210072369202835740595917953850010221027544068466786444556208152104203810745547768747303463105884633876945540326906730922148097356592428250108314392254945429332404001610291179626101255476768943993582589704429793628578704188541763585)
def k72:Rope:=(.nd 132 (.nd 2 k2 (.nd 1 (.rp 1 (.int .i64 1)) k3)) k32)
def k73:Rope:=(.nd 132 k34 k35)
def k74:Rope:=(.nd 132 k36 k37)
def k75:Rope:=(.nd 132 k39 k40)
def k76:Rope:=(.nd 132 k41 k42)
def k77:Rope:=(.nd 132 k45 k46)
def k78:Rope:=(.nd 132 k41 k32)
def k79:Rope:=(.nd 132 k43 k44)
def k80:Rope:=(.nd 132 k48 k49)
def k81:Rope:=(.nd 132 k54 k55)
def k82:Rope:=(.nd 132 k48 k50)
def k83:Rope:=(.nd 132 k52 k53)
def k84:Rope:=(.nd 132 k53 k55)
def k85:Rope:=(.nd 132 k61 k62)
def k86:Rope:=(.nd 132 k59 k60)
def k87:Rope:=(.nd 132 k60 k62)
def k88:Rope:=(.nd 132 k65 k66)
def k89:Rope:=(.nd 132 k67 k68)
def k90:Rope:=(.nd 132 k64 k66)
def k91:Rope:=(.nd 132 k63 k64)
def k92:Rope:=(.by 160 898846567431157953864652595394512366808988489471153286367150405788663379027511025735911589447778276023554419409577994332362415630516639320616341357008116169657586770587433311015388043546557377328187562857781621272440861726104569352798897956705746476996378654678408260143729812282103011317805360352309662449665)
def k93:Rope:=(.nd 32 (.by 32 1) (.nd 1 (.rp 1 (.int .u64 0)) (.nd 1 (.rp 1 (.int .i64 1)) (.nd 32 (.by 32 0) (.nd 1 (.rp 1 (.int .u64 0)) (.nd 32 (.by 32 0) (.nd 1 (.rp 1 (.int .u64 0)) (.nd 3 (.nd 1 (.rp 1 (.slu 6 0 3 32)) k0) k28))))))))
def k94:Rope:=(.nd 32 (.by 32 3) (.nd 1 (.rp 1 (.int .u64 0)) (.nd 1 (.rp 1 (.int .i64 1)) (.nd 32 (.by 32 0) (.nd 1 (.rp 1 (.int .u64 0)) (.nd 32 (.by 32 0) (.nd 1 (.rp 1 (.int .u64 0)) (.nd 3 (.nd 1 (.rp 1 (.slu 11 0 3 32)) k0) k28))))))))
def k95:Rope:=(.nd 32 (.by 32 4) (.nd 1 (.rp 1 (.int .u64 0)) (.nd 1 (.rp 1 (.int .i64 1)) (.nd 32 (.by 32 0) (.nd 1 (.rp 1 (.int .u64 0)) (.nd 32 (.by 32 0) (.nd 1 (.rp 1 (.int .u64 0)) (.nd 3 (.nd 1 (.rp 1 (.slu 13 0 3 32)) k0) k28))))))))
def k96:Rope:=(.nd 32 (.by 32 5) (.nd 1 (.rp 1 (.int .u64 0)) (.nd 1 (.rp 1 (.int .i64 1)) (.nd 32 (.by 32 0) (.nd 1 (.rp 1 (.int .u64 0)) (.nd 32 (.by 32 0) (.nd 1 (.rp 1 (.int .u64 0)) (.nd 3 (.nd 1 (.rp 1 (.slu 15 0 3 32)) k0) k28))))))))
def k97:Rope:=(.by 192 124895186335972788983102883928369026463383146967200457663829348204843296716081222422714304458741754870704453879818181081986073948266248729303467542647155360180825465702118422425301754615348580600007875462202794373860940467127589862573207603383846556811803574667280487319789186583196848877267138844417130191517617564394391998797377604519473904606680340249116345819894453887020747687198721)
def k98:Rope:=(.nd 32 (.by 32 2) (.nd 1 (.rp 1 (.int .u64 0)) (.nd 1 (.rp 1 (.int .i64 2)) (.nd 32 (.by 32 0) (.nd 1 (.rp 1 (.int .u64 0)) (.nd 32 (.by 32 0) (.nd 1 (.rp 1 (.int .u64 0)) (.nd 3 (.nd 1 (.rp 1 (.slu 8 0 3 32)) (.nd 1 (.rp 1 (.slu 9 0 2 132)) (.rp 1 .nilSlice))) k29))))))))
def k99:Rope:=(.nd 32 (.by 32 1) (.nd 1 (.rp 1 (.int .u64 0)) (.nd 1 (.rp 1 (.int .i64 2)) (.nd 32 (.by 32 0) (.nd 1 (.rp 1 (.int .u64 0)) (.nd 32 (.by 32 0) (.nd 1 (.rp 1 (.int .u64 0)) (.nd 3 k20 k29))))))))
def k100:Rope:=(.nd 32 (.by 32 2) (.nd 1 (.rp 1 (.int .u64 0)) (.nd 1 (.rp 1 (.int .i64 2)) (.nd 32 (.by 32 0) (.nd 1 (.rp 1 (.int .u64 0)) (.nd 32 (.by 32 0) (.nd 1 (.rp 1 (.int .u64 0)) (.nd 3 (.nd 1 (.rp 1 (.slu 9 0 3 32)) (.nd 1 (.rp 1 (.slu 10 0 3 132)) (.rp 1 .nilSlice))) k29))))))))
def k101:Rope:=(.nd 32 (.by 32 3) (.nd 1 (.rp 1 (.int .u64 0)) (.nd 1 (.rp 1 (.int .i64 2)) (.nd 32 (.by 32 0) (.nd 1 (.rp 1 (.int .u64 0)) (.nd 32 (.by 32 0) (.nd 1 (.rp 1 (.int .u64 0)) (.nd 3 (.nd 1 (.rp 1 (.slu 12 0 3 32)) (.nd 1 (.rp 1 (.slu 13 0 4 132)) (.rp 1 .nilSlice))) k29))))))))
def k102:Rope:=(.nd 264 k72 k33)
def k103:Rope:=(.nd 264 k73 k36)
def k104:Rope:=(.nd 264 (.nd 132 k34 k36) k35)
def k105:Rope:=(.nd 264 k73 k38)
def k106:Rope:=(.nd 264 k78 k43)
def k107:Rope:=(.nd 264 k72 k43)
def k108:Rope:=(.nd 264 k90 k68)
def k109:Rope:=(.by 224 16872186988447228120060816242198198790384652735619822659517725273456801741142747299869931141540405450528069732992679416662004119309228537622992134211951503782609207680130118328266178999303588678819904875909980989132484888547979349126410535320398674177410011244011453324006321362433524793256420088241628682455155991367934990158191427655606589637883846301539503804881513123180943548462123064198508018274620921333469339195548477427930019616628525361886054070062415873)
def k110:Rope:=(.nd 396 k104 k37)
def k111:Rope:=(.nd 396 k103 k39)
def k112:Rope:=(.nd 396 k104 k39)
def k113:Rope:=(.nd 396 (.nd 264 k82 k51) k49)
def k114:Rope:=(.nd 396 k107 k45)
def k115:Rope:=(.nd 528 k110 k38)
def k116:Rope:=(.nd 528 k111 k40)
def k117:Rope:=(.nd 528 k112 k37)
def k118:Rope:=(.nd 528 k113 k52)
def k119:Rope:=(.nd 528 k112 k58)
def k120:Rope:=(.nd 528 k114 k42)
def k121:Rope:=(.nd 660 k118 k54)
def k122:Rope:=(.nd 660 k119 k59)
def k123:Rope:=(.nd 660 k120 k63)
def k124:Rope:=(.nd 792 (.nd 660 k117 k38) k40)
def k125:Rope:=(.nd 792 (.nd 528 (.nd 396 k106 k45) (.nd 132 k42 k44)) k46)
def k126:Rope:=(.nd 792 k121 k56)
def k127:Rope:=(.nd 792 k122 k61)
def k128:Rope:=(.nd 792 k123 k64)
def k129:Rope:=(.nd 792 k123 k65)
def k130:Rope:=(.nd 924 k125 k47)
def k131:Rope:=(.nd 792 (.nd 660 (.nd 528 (.nd 396 (.nd 264 k80 k50) k51) k52) k53) k81)
def k132:Rope:=(.nd 924 k127 k37)
def k133:Rope:=(.nd 924 k129 k67)
def k134:Rope:=(.nd 924 (.nd 792 (.nd 660 (.nd 528 k111 k58) k59) k60) k85)
def k135:Rope:=(.nd 1056 k132 k38)
def k136:Rope:=(.nd 1056 k133 k33)
def k137:Rope:=(.nd 1056 (.nd 924 k126 k57) k84)
def k138:Rope:=(.nd 1188 (.nd 924 k128 k88) k89)
def k139:Rope:=(.nd 1320 (.nd 1188 k135 k40) k87)
def k140:Rope:=(.nd 1320 (.nd 1188 k136 k44) k108)
def s1_0:H:=(.nd (.nd (.nd (.nd .lf (some (.cells 47 k102)) .lf) (some (.cells 47 k102)) .lf) (some (.cells 36 (.by 32 1))) (.nd .lf (some (.cells 36 (.by 32 1))) .lf)) (some (.cells 31 (.nd 1 (.rp 1 (.slu 1 0 1 32)) (.nd 1 (.rp 1 (.int .i64 0)) (.nd 1 (.rp 1 (.slice 2 0 1 1)) (.nd 1 (.rp 1 (.slu 3 0 3 132)) (.rp 1 (.slice 4 0 1 1)))))))) (.nd (.nd (.nd .lf (some (.cells 47 k102)) .lf) (some (.cells 29 (.rp 1 (.slu 8 0 3 132)))) .lf) (some (.cells 40 (.nd 1 (.rp 1 (.int .u64 7)) (.nd 1 (.rp 1 (.slu 5 0 1 32)) (.nd 32 (.by 32 1) (.nd 1 (.rp 1 (.int .u64 0)) (.nd 1 (.rp 1 (.int .i64 4)) (.nd 32 (.by 32 1) (.nd 1 (.rp 1 (.int .u64 1)) (.nd 32 (.by 32 1) (.nd 1 (.rp 1 (.int .u64 1)) (.nd 3 k20 k27)))))))))))) (.nd .lf (some (.cells 37 k70)) .lf)))
def s2_0:H:=(.nd (.nd (.nd (.nd .lf (some (.cells 36 k23)) .lf) (some (.cells 47 k73)) .lf) (some (.cells 36 k23)) (.nd (.nd .lf (some (.cells 47 k73)) .lf) (some (.cells 36 k23)) .lf)) (some (.cells 31 (.nd 1 (.rp 1 (.slu 1 0 2 32)) (.nd 1 (.rp 1 (.int .i64 0)) (.nd 1 (.rp 1 (.slice 2 0 2 2)) (.nd 1 (.rp 1 (.slu 3 0 2 132)) (.rp 1 (.slice 4 0 2 2)))))))) (.nd (.nd (.nd .lf (some (.cells 37 k70)) .lf) (some (.cells 29 (.nd 1 (.rp 1 .nilSlice) (.rp 1 (.slu 10 0 2 132))))) .lf) (some (.cells 40 (.nd 141 (.nd 1 (.rp 1 (.int .u64 7)) (.nd 1 (.rp 1 (.slu 5 0 2 32)) k93)) (.nd 1 (.rp 1 (.int .u64 7)) (.nd 1 (.rp 1 (.slu 7 0 2 32)) k98))))) (.nd (.nd .lf (some (.cells 47 k73)) .lf) (some (.cells 37 k70)) .lf)))
def s2_1:H:=(.nd (.nd (.nd (.nd .lf (some (.cells 47 k110)) .lf) (some (.cells 47 (.nd 528 (.nd 396 k103 k37) k38))) (.nd .lf (some (.cells 47 k74)) .lf)) (some (.cells 36 k23)) (.nd (.nd .lf (some (.cells 37 k70)) .lf) (some (.cells 36 k23)) .lf)) (some (.cells 31 (.nd 1 (.rp 1 (.slu 1 0 2 32)) (.nd 1 (.rp 1 (.int .i64 0)) (.nd 1 (.rp 1 (.slice 2 0 2 2)) (.nd 1 (.rp 1 (.slu 3 0 5 132)) (.rp 1 (.slice 4 0 2 2)))))))) (.nd (.nd (.nd .lf (some (.cells 36 k23)) .lf) (some (.cells 29 (.nd 1 (.rp 1 (.slu 11 0 2 132)) (.rp 1 (.slu 12 0 3 132))))) (.nd .lf (some (.cells 47 k105)) .lf)) (some (.cells 40 (.nd 141 (.nd 1 (.rp 1 (.int .u64 7)) (.nd 1 (.rp 1 (.slu 5 0 2 32)) (.nd 32 (.by 32 1) (.nd 1 (.rp 1 (.int .u64 0)) (.nd 1 (.rp 1 (.int .i64 3)) (.nd 32 (.by 32 2) (.nd 1 (.rp 1 (.int .u64 1)) (.nd 32 (.by 32 2) (.nd 1 (.rp 1 (.int .u64 1)) (.nd 3 (.nd 1 (.rp 1 (.slu 6 0 3 32)) (.nd 1 (.rp 1 (.slu 7 0 4 132)) (.rp 1 .nilSlice))) k29)))))))))) (.nd 1 (.rp 1 (.int .u64 7)) (.nd 1 (.rp 1 (.slu 8 0 2 32)) (.nd 32 (.by 32 2) (.nd 1 (.rp 1 (.int .u64 0)) (.nd 1 (.rp 1 (.int .i64 4)) (.nd 32 (.by 32 2) (.nd 1 (.rp 1 (.int .u64 1)) (.nd 32 (.by 32 2) (.nd 1 (.rp 1 (.int .u64 1)) (.nd 3 k21 k30))))))))))))) (.nd (.nd .lf (some (.cells 47 k115)) .lf) (some (.cells 37 k70)) .lf)))
def s2_2:H:=(.nd (.nd (.nd (.nd .lf (some (.cells 47 k115)) .lf) (some (.cells 47 (.nd 528 (.nd 396 k103 k37) k38))) (.nd .lf (some (.cells 47 k74)) .lf)) (some (.cells 36 k23)) (.nd (.nd .lf (some (.cells 37 k70)) .lf) (some (.cells 36 k23)) .lf)) (some (.cells 31 (.nd 1 (.rp 1 (.slu 1 0 2 32)) (.nd 1 (.rp 1 (.int .i64 0)) (.nd 1 (.rp 1 (.slice 2 0 2 2)) (.nd 1 (.rp 1 (.slu 3 0 5 132)) (.rp 1 (.slice 4 0 2 2)))))))) (.nd (.nd (.nd .lf (some (.cells 36 k23)) .lf) (some (.cells 29 (.nd 1 (.rp 1 (.slu 11 0 2 132)) (.rp 1 (.slu 12 0 3 132))))) (.nd .lf (some (.cells 47 k105)) .lf)) (some (.cells 40 (.nd 141 (.nd 1 (.rp 1 (.int .u64 7)) (.nd 1 (.rp 1 (.slu 5 0 2 32)) (.nd 32 (.by 32 1) (.nd 1 (.rp 1 (.int .u64 0)) (.nd 1 (.rp 1 (.int .i64 4)) (.nd 32 (.by 32 2) (.nd 1 (.rp 1 (.int .u64 1)) (.nd 32 (.by 32 2) (.nd 1 (.rp 1 (.int .u64 1)) (.nd 3 (.nd 1 (.rp 1 (.slu 6 0 3 32)) (.nd 1 (.rp 1 (.slu 7 0 5 132)) (.rp 1 .nilSlice))) k30)))))))))) (.nd 1 (.rp 1 (.int .u64 7)) (.nd 1 (.rp 1 (.slu 8 0 2 32)) (.nd 32 (.by 32 2) (.nd 1 (.rp 1 (.int .u64 0)) (.nd 1 (.rp 1 (.int .i64 4)) (.nd 32 (.by 32 2) (.nd 1 (.rp 1 (.int .u64 1)) (.nd 32 (.by 32 2) (.nd 1 (.rp 1 (.int .u64 1)) (.nd 3 k21 k30))))))))))))) (.nd (.nd .lf (some (.cells 47 k115)) .lf) (some (.cells 37 k70)) .lf)))
def s3_0:H:=(.nd (.nd (.nd (.nd .lf (some (.cells 36 k70)) .lf) (some (.cells 47 k73)) (.nd .lf (some (.cells 37 k70)) .lf)) (some (.cells 36 k70)) (.nd (.nd .lf (some (.cells 47 k73)) .lf) (some (.cells 36 k70)) .lf)) (some (.cells 31 (.nd 1 (.rp 1 (.slu 1 0 3 32)) (.nd 1 (.rp 1 (.int .i64 0)) (.nd 1 (.rp 1 (.slice 2 0 3 3)) (.nd 1 (.rp 1 (.slu 3 0 2 132)) (.rp 1 (.slice 4 0 3 3)))))))) (.nd (.nd (.nd .lf (some (.cells 37 k70)) .lf) (some (.cells 29 (.nd 1 (.rp 1 .nilSlice) (.nd 1 (.rp 1 (.slu 12 0 2 132)) (.rp 1 .nilSlice))))) (.nd .lf (some (.cells 47 k73)) .lf)) (some (.cells 40 (.nd 141 (.nd 1 (.rp 1 (.int .u64 7)) (.nd 1 (.rp 1 (.slu 5 0 3 32)) k93)) (.nd 141 (.nd 1 (.rp 1 (.int .u64 7)) (.nd 1 (.rp 1 (.slu 7 0 3 32)) k98)) (.nd 1 (.rp 1 (.int .u64 7)) (.nd 1 (.rp 1 (.slu 10 0 3 32)) k94)))))) (.nd (.nd .lf (some (.cells 36 k70)) .lf) (some (.cells 37 k70)) .lf)))
def s3_1:H:=(.nd (.nd (.nd (.nd (.nd .lf (some (.cells 47 k73)) .lf) (some (.cells 47 k104)) .lf) (some (.cells 47 k116)) (.nd .lf (some (.cells 36 k70)) .lf)) (some (.cells 36 k70)) (.nd (.nd .lf (some (.cells 37 k70)) .lf) (some (.cells 36 k70)) (.nd .lf (some (.cells 47 (.nd 528 k112 k40))) .lf))) (some (.cells 31 (.nd 1 (.rp 1 (.slu 1 0 3 32)) (.nd 1 (.rp 1 (.int .i64 0)) (.nd 1 (.rp 1 (.slice 2 0 3 3)) (.nd 1 (.rp 1 (.slu 3 0 5 132)) (.rp 1 (.slice 4 0 3 3)))))))) (.nd (.nd (.nd (.nd .lf (some (.cells 47 k75)) .lf) (some (.cells 36 k70)) .lf) (some (.cells 29 (.nd 1 (.rp 1 (.slu 14 0 1 132)) (.nd 1 (.rp 1 (.slu 15 0 2 132)) (.rp 1 (.slu 16 0 2 132)))))) (.nd .lf (some (.cells 37 k70)) .lf)) (some (.cells 40 (.nd 141 (.nd 1 (.rp 1 (.int .u64 7)) (.nd 1 (.rp 1 (.slu 5 0 3 32)) k99)) (.nd 141 (.nd 1 (.rp 1 (.int .u64 7)) (.nd 1 (.rp 1 (.slu 8 0 3 32)) k100)) (.nd 1 (.rp 1 (.int .u64 7)) (.nd 1 (.rp 1 (.slu 11 0 3 32)) (.nd 32 (.by 32 3) (.nd 1 (.rp 1 (.int .u64 0)) (.nd 1 (.rp 1 (.int .i64 3)) (.nd 32 (.by 32 2) (.nd 1 (.rp 1 (.int .u64 1)) (.nd 32 (.by 32 2) (.nd 1 (.rp 1 (.int .u64 1)) (.nd 3 (.nd 1 (.rp 1 (.slu 12 0 3 32)) (.nd 1 (.rp 1 (.slu 13 0 5 132)) (.rp 1 .nilSlice))) k29)))))))))))))) (.nd (.nd .lf (some (.cells 47 k104)) .lf) (some (.cells 37 k70)) (.nd .lf (some (.cells 47 k36)) .lf))))
def s3_2:H:=(.nd (.nd (.nd (.nd (.nd .lf (some (.cells 47 k105)) .lf) (some (.cells 47 (.nd 660 k117 k40))) .lf) (some (.cells 47 (.nd 792 (.nd 660 k116 k37) k38))) (.nd .lf (some (.cells 36 k70)) .lf)) (some (.cells 36 k70)) (.nd (.nd .lf (some (.cells 37 k70)) .lf) (some (.cells 36 k70)) (.nd .lf (some (.cells 47 k124)) .lf))) (some (.cells 31 (.nd 1 (.rp 1 (.slu 1 0 3 32)) (.nd 1 (.rp 1 (.int .i64 0)) (.nd 1 (.rp 1 (.slice 2 0 3 3)) (.nd 1 (.rp 1 (.slu 3 0 7 132)) (.rp 1 (.slice 4 0 3 3)))))))) (.nd (.nd (.nd (.nd .lf (some (.cells 47 k75)) .lf) (some (.cells 36 k70)) .lf) (some (.cells 29 (.nd 1 (.rp 1 (.slu 14 0 2 132)) (.nd 1 (.rp 1 (.slu 15 0 3 132)) (.rp 1 (.slu 16 0 2 132)))))) (.nd .lf (some (.cells 37 k70)) .lf)) (some (.cells 40 (.nd 141 (.nd 1 (.rp 1 (.int .u64 7)) (.nd 1 (.rp 1 (.slu 5 0 3 32)) (.nd 32 (.by 32 1) (.nd 1 (.rp 1 (.int .u64 0)) (.nd 1 (.rp 1 (.int .i64 3)) (.nd 32 (.by 32 2) (.nd 1 (.rp 1 (.int .u64 1)) (.nd 32 (.by 32 2) (.nd 1 (.rp 1 (.int .u64 1)) (.nd 3 (.nd 1 (.rp 1 (.slu 6 0 3 32)) (.nd 1 (.rp 1 (.slu 7 0 6 132)) (.rp 1 .nilSlice))) k29)))))))))) (.nd 141 (.nd 1 (.rp 1 (.int .u64 7)) (.nd 1 (.rp 1 (.slu 8 0 3 32)) (.nd 32 (.by 32 2) (.nd 1 (.rp 1 (.int .u64 0)) (.nd 1 (.rp 1 (.int .i64 4)) (.nd 32 (.by 32 2) (.nd 1 (.rp 1 (.int .u64 1)) (.nd 32 (.by 32 2) (.nd 1 (.rp 1 (.int .u64 1)) (.nd 3 (.nd 1 (.rp 1 (.slu 9 0 3 32)) (.nd 1 (.rp 1 (.slu 10 0 7 132)) (.rp 1 .nilSlice))) k30)))))))))) (.nd 1 (.rp 1 (.int .u64 7)) (.nd 1 (.rp 1 (.slu 11 0 3 32)) (.nd 32 (.by 32 3) (.nd 1 (.rp 1 (.int .u64 0)) (.nd 1 (.rp 1 (.int .i64 4)) (.nd 32 (.by 32 2) (.nd 1 (.rp 1 (.int .u64 1)) (.nd 32 (.by 32 2) (.nd 1 (.rp 1 (.int .u64 1)) (.nd 3 k22 k30)))))))))))))) (.nd (.nd .lf (some (.cells 47 k124)) .lf) (some (.cells 37 k70)) (.nd .lf (some (.cells 47 k74)) .lf))))
def s3_3:H:=(.nd (.nd (.nd (.nd (.nd .lf (some (.cells 47 k105)) .lf) (some (.cells 47 k124)) .lf) (some (.cells 47 (.nd 792 (.nd 660 k116 k37) k38))) (.nd .lf (some (.cells 36 k70)) .lf)) (some (.cells 36 k70)) (.nd (.nd .lf (some (.cells 37 k70)) .lf) (some (.cells 36 k70)) (.nd .lf (some (.cells 47 k124)) .lf))) (some (.cells 31 (.nd 1 (.rp 1 (.slu 1 0 3 32)) (.nd 1 (.rp 1 (.int .i64 0)) (.nd 1 (.rp 1 (.slice 2 0 3 3)) (.nd 1 (.rp 1 (.slu 3 0 7 132)) (.rp 1 (.slice 4 0 3 3)))))))) (.nd (.nd (.nd (.nd .lf (some (.cells 47 k75)) .lf) (some (.cells 36 k70)) .lf) (some (.cells 29 (.nd 1 (.rp 1 (.slu 14 0 2 132)) (.nd 1 (.rp 1 (.slu 15 0 3 132)) (.rp 1 (.slu 16 0 2 132)))))) (.nd .lf (some (.cells 37 k70)) .lf)) (some (.cells 40 (.nd 141 (.nd 1 (.rp 1 (.int .u64 7)) (.nd 1 (.rp 1 (.slu 5 0 3 32)) (.nd 32 (.by 32 1) (.nd 1 (.rp 1 (.int .u64 0)) (.nd 1 (.rp 1 (.int .i64 4)) (.nd 32 (.by 32 2) (.nd 1 (.rp 1 (.int .u64 1)) (.nd 32 (.by 32 2) (.nd 1 (.rp 1 (.int .u64 1)) (.nd 3 (.nd 1 (.rp 1 (.slu 6 0 3 32)) (.nd 1 (.rp 1 (.slu 7 0 7 132)) (.rp 1 .nilSlice))) k30)))))))))) (.nd 141 (.nd 1 (.rp 1 (.int .u64 7)) (.nd 1 (.rp 1 (.slu 8 0 3 32)) (.nd 32 (.by 32 2) (.nd 1 (.rp 1 (.int .u64 0)) (.nd 1 (.rp 1 (.int .i64 4)) (.nd 32 (.by 32 2) (.nd 1 (.rp 1 (.int .u64 1)) (.nd 32 (.by 32 2) (.nd 1 (.rp 1 (.int .u64 1)) (.nd 3 (.nd 1 (.rp 1 (.slu 9 0 3 32)) (.nd 1 (.rp 1 (.slu 10 0 7 132)) (.rp 1 .nilSlice))) k30)))))))))) (.nd 1 (.rp 1 (.int .u64 7)) (.nd 1 (.rp 1 (.slu 11 0 3 32)) (.nd 32 (.by 32 3) (.nd 1 (.rp 1 (.int .u64 0)) (.nd 1 (.rp 1 (.int .i64 4)) (.nd 32 (.by 32 2) (.nd 1 (.rp 1 (.int .u64 1)) (.nd 32 (.by 32 2) (.nd 1 (.rp 1 (.int .u64 1)) (.nd 3 k22 k30)))))))))))))) (.nd (.nd .lf (some (.cells 47 k124)) .lf) (some (.cells 37 k70)) (.nd .lf (some (.cells 47 k74)) .lf))))
def s4_0:H:=(.nd (.nd (.nd (.nd .lf (some (.cells 36 k71)) .lf) (some (.cells 47 k76)) (.nd .lf (some (.cells 36 k71)) .lf)) (some (.cells 36 k71)) (.nd (.nd .lf (some (.cells 36 k71)) .lf) (some (.cells 36 k71)) (.nd .lf (some (.cells 47 k76)) .lf))) (some (.cells 31 (.nd 1 (.rp 1 (.slu 1 0 4 32)) (.nd 1 (.rp 1 (.int .i64 0)) (.nd 1 (.rp 1 (.slice 2 0 4 4)) (.nd 1 (.rp 1 (.slu 3 0 2 132)) (.rp 1 (.slice 4 0 4 4)))))))) (.nd (.nd (.nd .lf (some (.cells 37 k70)) .lf) (some (.cells 29 (.nd 3 (.rp 3 .nilSlice) (.rp 1 (.slu 14 0 2 132))))) (.nd .lf (some (.cells 37 k70)) .lf)) (some (.cells 40 (.nd 141 (.nd 1 (.rp 1 (.int .u64 7)) (.nd 1 (.rp 1 (.slu 5 0 4 32)) k93)) (.nd 141 (.nd 1 (.rp 1 (.int .u64 7)) (.nd 1 (.rp 1 (.slu 7 0 4 32)) (.nd 32 (.by 32 2) (.nd 1 (.rp 1 (.int .u64 0)) (.nd 1 (.rp 1 (.int .i64 1)) (.nd 32 (.by 32 0) (.nd 1 (.rp 1 (.int .u64 0)) (.nd 32 (.by 32 0) (.nd 1 (.rp 1 (.int .u64 0)) (.nd 3 (.nd 1 (.rp 1 (.slu 8 0 3 32)) k0) k28)))))))))) (.nd 141 (.nd 1 (.rp 1 (.int .u64 7)) (.nd 1 (.rp 1 (.slu 9 0 4 32)) (.nd 32 (.by 32 3) (.nd 1 (.rp 1 (.int .u64 0)) (.nd 1 (.rp 1 (.int .i64 1)) (.nd 32 (.by 32 0) (.nd 1 (.rp 1 (.int .u64 0)) (.nd 32 (.by 32 0) (.nd 1 (.rp 1 (.int .u64 0)) (.nd 3 (.nd 1 (.rp 1 (.slu 10 0 3 32)) k0) k28)))))))))) (.nd 1 (.rp 1 (.int .u64 7)) (.nd 1 (.rp 1 (.slu 11 0 4 32)) (.nd 32 (.by 32 4) (.nd 1 (.rp 1 (.int .u64 0)) (.nd 1 (.rp 1 (.int .i64 2)) (.nd 32 (.by 32 0) (.nd 1 (.rp 1 (.int .u64 0)) (.nd 32 (.by 32 0) (.nd 1 (.rp 1 (.int .u64 0)) (.nd 3 (.nd 1 (.rp 1 (.slu 12 0 3 32)) (.nd 1 (.rp 1 (.slu 13 0 2 132)) (.rp 1 .nilSlice))) k29))))))))))))))) (.nd (.nd .lf (some (.cells 37 k70)) .lf) (some (.cells 37 k70)) (.nd .lf (some (.cells 47 k76)) .lf))))
def s4_1:H:=(.nd (.nd (.nd (.nd (.nd .lf (some (.cells 37 k70)) .lf) (some (.cells 47 (.nd 264 k78 k42))) .lf) (some (.cells 47 (.nd 924 (.nd 660 (.nd 528 (.nd 396 (.nd 264 k76 k32) k43) k44) k77) k47))) (.nd (.nd .lf (some (.cells 47 k77)) .lf) (some (.cells 36 k71)) .lf)) (some (.cells 36 k71)) (.nd (.nd (.nd .lf (some (.cells 47 k32)) .lf) (some (.cells 37 k70)) .lf) (some (.cells 36 k71)) (.nd .lf (some (.cells 47 k125)) .lf))) (some (.cells 31 (.nd 1 (.rp 1 (.slu 1 0 4 32)) (.nd 1 (.rp 1 (.int .i64 0)) (.nd 1 (.rp 1 (.slice 2 0 4 4)) (.nd 1 (.rp 1 (.slu 3 0 8 132)) (.rp 1 (.slice 4 0 4 4)))))))) (.nd (.nd (.nd (.nd .lf (some (.cells 47 k130)) .lf) (some (.cells 36 k71)) .lf) (some (.cells 29 (.nd 3 (.nd 1 (.rp 1 (.slu 17 0 1 132)) (.nd 1 (.rp 1 (.slu 18 0 2 132)) (.rp 1 (.slu 19 0 2 132)))) (.rp 1 (.slu 20 0 3 132))))) (.nd (.nd .lf (some (.cells 47 (.nd 264 k76 k47))) .lf) (some (.cells 37 k70)) .lf)) (some (.cells 40 (.nd 141 (.nd 1 (.rp 1 (.int .u64 7)) (.nd 1 (.rp 1 (.slu 5 0 4 32)) k99)) (.nd 141 (.nd 1 (.rp 1 (.int .u64 7)) (.nd 1 (.rp 1 (.slu 8 0 4 32)) (.nd 32 (.by 32 2) (.nd 1 (.rp 1 (.int .u64 0)) (.nd 1 (.rp 1 (.int .i64 3)) (.nd 32 (.by 32 1) (.nd 1 (.rp 1 (.int .u64 1)) (.nd 32 (.by 32 1) (.nd 1 (.rp 1 (.int .u64 1)) (.nd 3 k21 k29)))))))))) (.nd 141 (.nd 1 (.rp 1 (.int .u64 7)) (.nd 1 (.rp 1 (.slu 11 0 4 32)) (.nd 32 (.by 32 3) (.nd 1 (.rp 1 (.int .u64 0)) (.nd 1 (.rp 1 (.int .i64 3)) (.nd 32 (.by 32 1) (.nd 1 (.rp 1 (.int .u64 1)) (.nd 32 (.by 32 1) (.nd 1 (.rp 1 (.int .u64 1)) (.nd 3 k22 k29)))))))))) (.nd 1 (.rp 1 (.int .u64 7)) (.nd 1 (.rp 1 (.slu 14 0 4 32)) (.nd 32 (.by 32 4) (.nd 1 (.rp 1 (.int .u64 0)) (.nd 1 (.rp 1 (.int .i64 4)) (.nd 32 (.by 32 1) (.nd 1 (.rp 1 (.int .u64 1)) (.nd 32 (.by 32 1) (.nd 1 (.rp 1 (.int .u64 1)) (.nd 3 (.nd 1 (.rp 1 (.slu 15 0 3 32)) (.nd 1 (.rp 1 (.slu 16 0 8 132)) (.rp 1 .nilSlice))) k27))))))))))))))) (.nd (.nd (.nd .lf (some (.cells 47 k79)) .lf) (some (.cells 47 (.nd 528 (.nd 396 k106 k42) k44))) .lf) (some (.cells 37 k70)) (.nd .lf (some (.cells 36 k71)) .lf))))
def s4_2:H:=(.nd (.nd (.nd (.nd (.nd .lf (some (.cells 37 k70)) .lf) (some (.cells 47 k130)) .lf) (some (.cells 47 (.nd 924 (.nd 660 (.nd 528 (.nd 396 (.nd 264 k76 k32) k43) k44) k77) k47))) (.nd (.nd .lf (some (.cells 47 k77)) .lf) (some (.cells 36 k71)) .lf)) (some (.cells 36 k71)) (.nd (.nd (.nd .lf (some (.cells 47 k32)) .lf) (some (.cells 37 k70)) .lf) (some (.cells 36 k71)) (.nd .lf (some (.cells 47 k130)) .lf))) (some (.cells 31 (.nd 1 (.rp 1 (.slu 1 0 4 32)) (.nd 1 (.rp 1 (.int .i64 0)) (.nd 1 (.rp 1 (.slice 2 0 4 4)) (.nd 1 (.rp 1 (.slu 3 0 8 132)) (.rp 1 (.slice 4 0 4 4)))))))) (.nd (.nd (.nd (.nd .lf (some (.cells 47 k130)) .lf) (some (.cells 36 k71)) .lf) (some (.cells 29 (.nd 3 (.nd 1 (.rp 1 (.slu 17 0 1 132)) (.nd 1 (.rp 1 (.slu 18 0 2 132)) (.rp 1 (.slu 19 0 2 132)))) (.rp 1 (.slu 20 0 3 132))))) (.nd (.nd .lf (some (.cells 47 (.nd 264 k76 k47))) .lf) (some (.cells 37 k70)) .lf)) (some (.cells 40 (.nd 141 (.nd 1 (.rp 1 (.int .u64 7)) (.nd 1 (.rp 1 (.slu 5 0 4 32)) (.nd 32 (.by 32 1) (.nd 1 (.rp 1 (.int .u64 0)) (.nd 1 (.rp 1 (.int .i64 4)) (.nd 32 (.by 32 0) (.nd 1 (.rp 1 (.int .u64 0)) (.nd 32 (.by 32 0) (.nd 1 (.rp 1 (.int .u64 0)) (.nd 3 (.nd 1 (.rp 1 (.slu 6 0 3 32)) (.nd 1 (.rp 1 (.slu 7 0 8 132)) (.rp 1 .nilSlice))) k27)))))))))) (.nd 141 (.nd 1 (.rp 1 (.int .u64 7)) (.nd 1 (.rp 1 (.slu 8 0 4 32)) (.nd 32 (.by 32 2) (.nd 1 (.rp 1 (.int .u64 0)) (.nd 1 (.rp 1 (.int .i64 4)) (.nd 32 (.by 32 1) (.nd 1 (.rp 1 (.int .u64 1)) (.nd 32 (.by 32 1) (.nd 1 (.rp 1 (.int .u64 1)) (.nd 3 (.nd 1 (.rp 1 (.slu 9 0 3 32)) (.nd 1 (.rp 1 (.slu 10 0 8 132)) (.rp 1 .nilSlice))) k27)))))))))) (.nd 141 (.nd 1 (.rp 1 (.int .u64 7)) (.nd 1 (.rp 1 (.slu 11 0 4 32)) (.nd 32 (.by 32 3) (.nd 1 (.rp 1 (.int .u64 0)) (.nd 1 (.rp 1 (.int .i64 4)) (.nd 32 (.by 32 1) (.nd 1 (.rp 1 (.int .u64 1)) (.nd 32 (.by 32 1) (.nd 1 (.rp 1 (.int .u64 1)) (.nd 3 (.nd 1 (.rp 1 (.slu 12 0 3 32)) (.nd 1 (.rp 1 (.slu 13 0 8 132)) (.rp 1 .nilSlice))) k27)))))))))) (.nd 1 (.rp 1 (.int .u64 7)) (.nd 1 (.rp 1 (.slu 14 0 4 32)) (.nd 32 (.by 32 4) (.nd 1 (.rp 1 (.int .u64 0)) (.nd 1 (.rp 1 (.int .i64 4)) (.nd 32 (.by 32 1) (.nd 1 (.rp 1 (.int .u64 1)) (.nd 32 (.by 32 1) (.nd 1 (.rp 1 (.int .u64 1)) (.nd 3 (.nd 1 (.rp 1 (.slu 15 0 3 32)) (.nd 1 (.rp 1 (.slu 16 0 8 132)) (.rp 1 .nilSlice))) k27))))))))))))))) (.nd (.nd (.nd .lf (some (.cells 47 k79)) .lf) (some (.cells 47 k130)) .lf) (some (.cells 37 k70)) (.nd .lf (some (.cells 36 k71)) .lf))))
def s5_0:H:=(.nd (.nd (.nd (.nd (.nd .lf (some (.cells 37 k70)) .lf) (some (.cells 36 k92)) .lf) (some (.cells 47 k80)) (.nd .lf (some (.cells 47 k80)) .lf)) (some (.cells 36 k92)) (.nd (.nd .lf (some (.cells 36 k92)) .lf) (some (.cells 36 k92)) (.nd .lf (some (.cells 37 k70)) .lf))) (some (.cells 31 (.nd 1 (.rp 1 (.slu 1 0 5 32)) (.nd 1 (.rp 1 (.int .i64 0)) (.nd 1 (.rp 1 (.slice 2 0 5 5)) (.nd 1 (.rp 1 (.slu 3 0 2 132)) (.rp 1 (.slice 4 0 5 5)))))))) (.nd (.nd (.nd (.nd .lf (some (.cells 47 k80)) .lf) (some (.cells 37 k70)) .lf) (some (.cells 29 (.nd 2 (.rp 2 .nilSlice) (.nd 1 (.rp 1 (.slu 16 0 2 132)) (.rp 2 .nilSlice))))) (.nd .lf (some (.cells 36 k92)) .lf)) (some (.cells 40 (.nd 141 (.nd 1 (.rp 1 (.int .u64 7)) (.nd 1 (.rp 1 (.slu 5 0 5 32)) k93)) (.nd 141 (.nd 1 (.rp 1 (.int .u64 7)) (.nd 1 (.rp 1 (.slu 7 0 5 32)) (.nd 32 (.by 32 2) (.nd 1 (.rp 1 (.int .u64 0)) (.nd 1 (.rp 1 (.int .i64 1)) (.nd 32 (.by 32 0) (.nd 1 (.rp 1 (.int .u64 0)) (.nd 32 (.by 32 0) (.nd 1 (.rp 1 (.int .u64 0)) (.nd 3 (.nd 1 (.rp 1 (.slu 8 0 3 32)) k0) k28)))))))))) (.nd 141 (.nd 1 (.rp 1 (.int .u64 7)) (.nd 1 (.rp 1 (.slu 9 0 5 32)) (.nd 32 (.by 32 3) (.nd 1 (.rp 1 (.int .u64 0)) (.nd 1 (.rp 1 (.int .i64 2)) (.nd 32 (.by 32 0) (.nd 1 (.rp 1 (.int .u64 0)) (.nd 32 (.by 32 0) (.nd 1 (.rp 1 (.int .u64 0)) (.nd 3 (.nd 1 (.rp 1 (.slu 10 0 3 32)) (.nd 1 (.rp 1 (.slu 11 0 2 132)) (.rp 1 .nilSlice))) k29)))))))))) (.nd 141 (.nd 1 (.rp 1 (.int .u64 7)) (.nd 1 (.rp 1 (.slu 12 0 5 32)) k95)) (.nd 1 (.rp 1 (.int .u64 7)) (.nd 1 (.rp 1 (.slu 14 0 5 32)) k96)))))))) (.nd (.nd .lf (some (.cells 37 k70)) .lf) (some (.cells 37 k70)) (.nd .lf (some (.cells 36 k92)) .lf))))
def s5_1:H:=(.nd (.nd (.nd (.nd (.nd .lf (some (.cells 37 k70)) .lf) (some (.cells 47 (.nd 264 k82 k49))) (.nd .lf (some (.cells 47 k83)) .lf)) (some (.cells 47 k131)) (.nd (.nd .lf (some (.cells 47 (.nd 924 (.nd 792 k121 k53) k55))) .lf) (some (.cells 36 k92)) .lf)) (some (.cells 36 k92)) (.nd (.nd (.nd .lf (some (.cells 36 k92)) .lf) (some (.cells 37 k70)) .lf) (some (.cells 36 k92)) (.nd (.nd .lf (some (.cells 47 k51)) .lf) (some (.cells 47 k113)) .lf))) (some (.cells 31 (.nd 1 (.rp 1 (.slu 1 0 5 32)) (.nd 1 (.rp 1 (.int .i64 0)) (.nd 1 (.rp 1 (.slice 2 0 5 5)) (.nd 1 (.rp 1 (.slu 3 0 8 132)) (.rp 1 (.slice 4 0 5 5)))))))) (.nd (.nd (.nd (.nd .lf (some (.cells 47 (.nd 660 k118 k53))) .lf) (some (.cells 36 k92)) (.nd .lf (some (.cells 47 k81)) .lf)) (some (.cells 29 (.nd 2 (.nd 1 (.rp 1 (.slu 20 0 1 132)) (.rp 1 (.slu 21 0 1 132))) k24))) (.nd (.nd .lf (some (.cells 47 k50)) .lf) (some (.cells 37 k70)) .lf)) (some (.cells 40 (.nd 141 (.nd 1 (.rp 1 (.int .u64 7)) (.nd 1 (.rp 1 (.slu 5 0 5 32)) k99)) (.nd 141 (.nd 1 (.rp 1 (.int .u64 7)) (.nd 1 (.rp 1 (.slu 8 0 5 32)) (.nd 32 (.by 32 2) (.nd 1 (.rp 1 (.int .u64 0)) (.nd 1 (.rp 1 (.int .i64 2)) (.nd 32 (.by 32 0) (.nd 1 (.rp 1 (.int .u64 0)) (.nd 32 (.by 32 0) (.nd 1 (.rp 1 (.int .u64 0)) (.nd 3 (.nd 1 (.rp 1 (.slu 9 0 3 32)) (.nd 1 (.rp 1 (.slu 10 0 4 132)) (.rp 1 .nilSlice))) k29)))))))))) (.nd 141 (.nd 1 (.rp 1 (.int .u64 7)) (.nd 1 (.rp 1 (.slu 11 0 5 32)) k101)) (.nd 141 (.nd 1 (.rp 1 (.int .u64 7)) (.nd 1 (.rp 1 (.slu 14 0 5 32)) (.nd 32 (.by 32 4) (.nd 1 (.rp 1 (.int .u64 0)) (.nd 1 (.rp 1 (.int .i64 3)) (.nd 32 (.by 32 3) (.nd 1 (.rp 1 (.int .u64 1)) (.nd 32 (.by 32 3) (.nd 1 (.rp 1 (.int .u64 1)) (.nd 3 (.nd 1 (.rp 1 (.slu 15 0 3 32)) (.nd 1 (.rp 1 (.slu 16 0 6 132)) (.rp 1 .nilSlice))) k29)))))))))) (.nd 1 (.rp 1 (.int .u64 7)) (.nd 1 (.rp 1 (.slu 17 0 5 32)) (.nd 32 (.by 32 5) (.nd 1 (.rp 1 (.int .u64 0)) (.nd 1 (.rp 1 (.int .i64 3)) (.nd 32 (.by 32 3) (.nd 1 (.rp 1 (.int .u64 1)) (.nd 32 (.by 32 3) (.nd 1 (.rp 1 (.int .u64 1)) (.nd 3 (.nd 1 (.rp 1 (.slu 18 0 3 32)) (.nd 1 (.rp 1 (.slu 19 0 8 132)) (.rp 1 .nilSlice))) k29)))))))))))))))) (.nd (.nd (.nd .lf (some (.cells 37 k70)) .lf) (some (.cells 47 k113)) .lf) (some (.cells 37 k70)) (.nd (.nd .lf (some (.cells 47 k80)) .lf) (some (.cells 36 k92)) .lf))))
def s5_2:H:=(.nd (.nd (.nd (.nd (.nd .lf (some (.cells 37 k70)) .lf) (some (.cells 47 (.nd 924 k126 k84))) (.nd .lf (some (.cells 47 k83)) .lf)) (some (.cells 47 (.nd 1188 (.nd 1056 k131 k56) k57))) (.nd (.nd .lf (some (.cells 47 k137)) .lf) (some (.cells 36 k92)) .lf)) (some (.cells 36 k92)) (.nd (.nd (.nd .lf (some (.cells 36 k92)) .lf) (some (.cells 37 k70)) .lf) (some (.cells 36 k92)) (.nd (.nd .lf (some (.cells 47 (.nd 132 k51 k57))) .lf) (some (.cells 47 k137)) .lf))) (some (.cells 31 (.nd 1 (.rp 1 (.slu 1 0 5 32)) (.nd 1 (.rp 1 (.int .i64 0)) (.nd 1 (.rp 1 (.slice 2 0 5 5)) (.nd 1 (.rp 1 (.slu 3 0 10 132)) (.rp 1 (.slice 4 0 5 5)))))))) (.nd (.nd (.nd (.nd .lf (some (.cells 47 k137)) .lf) (some (.cells 36 k92)) (.nd .lf (some (.cells 47 k81)) .lf)) (some (.cells 29 (.nd 2 (.nd 1 (.rp 1 (.slu 20 0 2 132)) (.rp 1 (.slu 21 0 2 132))) k24))) (.nd (.nd .lf (some (.cells 47 (.nd 132 k50 k56))) .lf) (some (.cells 37 k70)) .lf)) (some (.cells 40 (.nd 141 (.nd 1 (.rp 1 (.int .u64 7)) (.nd 1 (.rp 1 (.slu 5 0 5 32)) (.nd 32 (.by 32 1) (.nd 1 (.rp 1 (.int .u64 0)) (.nd 1 (.rp 1 (.int .i64 3)) (.nd 32 (.by 32 3) (.nd 1 (.rp 1 (.int .u64 1)) (.nd 32 (.by 32 3) (.nd 1 (.rp 1 (.int .u64 1)) (.nd 3 (.nd 1 (.rp 1 (.slu 6 0 3 32)) (.nd 1 (.rp 1 (.slu 7 0 9 132)) (.rp 1 .nilSlice))) k29)))))))))) (.nd 141 (.nd 1 (.rp 1 (.int .u64 7)) (.nd 1 (.rp 1 (.slu 8 0 5 32)) (.nd 32 (.by 32 2) (.nd 1 (.rp 1 (.int .u64 0)) (.nd 1 (.rp 1 (.int .i64 4)) (.nd 32 (.by 32 3) (.nd 1 (.rp 1 (.int .u64 1)) (.nd 32 (.by 32 3) (.nd 1 (.rp 1 (.int .u64 1)) (.nd 3 (.nd 1 (.rp 1 (.slu 9 0 3 32)) (.nd 1 (.rp 1 (.slu 10 0 10 132)) (.rp 1 .nilSlice))) k31)))))))))) (.nd 141 (.nd 1 (.rp 1 (.int .u64 7)) (.nd 1 (.rp 1 (.slu 11 0 5 32)) (.nd 32 (.by 32 3) (.nd 1 (.rp 1 (.int .u64 0)) (.nd 1 (.rp 1 (.int .i64 4)) (.nd 32 (.by 32 0) (.nd 1 (.rp 1 (.int .u64 0)) (.nd 32 (.by 32 0) (.nd 1 (.rp 1 (.int .u64 0)) (.nd 3 (.nd 1 (.rp 1 (.slu 12 0 3 32)) (.nd 1 (.rp 1 (.slu 13 0 10 132)) (.rp 1 .nilSlice))) k31)))))))))) (.nd 141 (.nd 1 (.rp 1 (.int .u64 7)) (.nd 1 (.rp 1 (.slu 14 0 5 32)) (.nd 32 (.by 32 4) (.nd 1 (.rp 1 (.int .u64 0)) (.nd 1 (.rp 1 (.int .i64 4)) (.nd 32 (.by 32 3) (.nd 1 (.rp 1 (.int .u64 1)) (.nd 32 (.by 32 3) (.nd 1 (.rp 1 (.int .u64 1)) (.nd 3 (.nd 1 (.rp 1 (.slu 15 0 3 32)) (.nd 1 (.rp 1 (.slu 16 0 10 132)) (.rp 1 .nilSlice))) k31)))))))))) (.nd 1 (.rp 1 (.int .u64 7)) (.nd 1 (.rp 1 (.slu 17 0 5 32)) (.nd 32 (.by 32 5) (.nd 1 (.rp 1 (.int .u64 0)) (.nd 1 (.rp 1 (.int .i64 4)) (.nd 32 (.by 32 3) (.nd 1 (.rp 1 (.int .u64 1)) (.nd 32 (.by 32 3) (.nd 1 (.rp 1 (.int .u64 1)) (.nd 3 (.nd 1 (.rp 1 (.slu 18 0 3 32)) (.nd 1 (.rp 1 (.slu 19 0 10 132)) (.rp 1 .nilSlice))) k31)))))))))))))))) (.nd (.nd (.nd .lf (some (.cells 37 k70)) .lf) (some (.cells 47 k137)) .lf) (some (.cells 37 k70)) (.nd (.nd .lf (some (.cells 47 k80)) .lf) (some (.cells 36 k92)) .lf))))
def s5_3:H:=(.nd (.nd (.nd (.nd (.nd .lf (some (.cells 37 k70)) .lf) (some (.cells 47 k137)) (.nd .lf (some (.cells 47 k83)) .lf)) (some (.cells 47 (.nd 1188 (.nd 1056 k131 k56) k57))) (.nd (.nd .lf (some (.cells 47 k137)) .lf) (some (.cells 36 k92)) .lf)) (some (.cells 36 k92)) (.nd (.nd (.nd .lf (some (.cells 36 k92)) .lf) (some (.cells 37 k70)) .lf) (some (.cells 36 k92)) (.nd (.nd .lf (some (.cells 47 (.nd 132 k51 k57))) .lf) (some (.cells 47 k137)) .lf))) (some (.cells 31 (.nd 1 (.rp 1 (.slu 1 0 5 32)) (.nd 1 (.rp 1 (.int .i64 0)) (.nd 1 (.rp 1 (.slice 2 0 5 5)) (.nd 1 (.rp 1 (.slu 3 0 10 132)) (.rp 1 (.slice 4 0 5 5)))))))) (.nd (.nd (.nd (.nd .lf (some (.cells 47 k137)) .lf) (some (.cells 36 k92)) (.nd .lf (some (.cells 47 k81)) .lf)) (some (.cells 29 (.nd 2 (.nd 1 (.rp 1 (.slu 20 0 2 132)) (.rp 1 (.slu 21 0 2 132))) k24))) (.nd (.nd .lf (some (.cells 47 (.nd 132 k50 k56))) .lf) (some (.cells 37 k70)) .lf)) (some (.cells 40 (.nd 141 (.nd 1 (.rp 1 (.int .u64 7)) (.nd 1 (.rp 1 (.slu 5 0 5 32)) (.nd 32 (.by 32 1) (.nd 1 (.rp 1 (.int .u64 0)) (.nd 1 (.rp 1 (.int .i64 4)) (.nd 32 (.by 32 3) (.nd 1 (.rp 1 (.int .u64 1)) (.nd 32 (.by 32 3) (.nd 1 (.rp 1 (.int .u64 1)) (.nd 3 (.nd 1 (.rp 1 (.slu 6 0 3 32)) (.nd 1 (.rp 1 (.slu 7 0 10 132)) (.rp 1 .nilSlice))) k31)))))))))) (.nd 141 (.nd 1 (.rp 1 (.int .u64 7)) (.nd 1 (.rp 1 (.slu 8 0 5 32)) (.nd 32 (.by 32 2) (.nd 1 (.rp 1 (.int .u64 0)) (.nd 1 (.rp 1 (.int .i64 4)) (.nd 32 (.by 32 3) (.nd 1 (.rp 1 (.int .u64 1)) (.nd 32 (.by 32 3) (.nd 1 (.rp 1 (.int .u64 1)) (.nd 3 (.nd 1 (.rp 1 (.slu 9 0 3 32)) (.nd 1 (.rp 1 (.slu 10 0 10 132)) (.rp 1 .nilSlice))) k31)))))))))) (.nd 141 (.nd 1 (.rp 1 (.int .u64 7)) (.nd 1 (.rp 1 (.slu 11 0 5 32)) (.nd 32 (.by 32 3) (.nd 1 (.rp 1 (.int .u64 0)) (.nd 1 (.rp 1 (.int .i64 4)) (.nd 32 (.by 32 0) (.nd 1 (.rp 1 (.int .u64 0)) (.nd 32 (.by 32 0) (.nd 1 (.rp 1 (.int .u64 0)) (.nd 3 (.nd 1 (.rp 1 (.slu 12 0 3 32)) (.nd 1 (.rp 1 (.slu 13 0 10 132)) (.rp 1 .nilSlice))) k31)))))))))) (.nd 141 (.nd 1 (.rp 1 (.int .u64 7)) (.nd 1 (.rp 1 (.slu 14 0 5 32)) (.nd 32 (.by 32 4) (.nd 1 (.rp 1 (.int .u64 0)) (.nd 1 (.rp 1 (.int .i64 4)) (.nd 32 (.by 32 3) (.nd 1 (.rp 1 (.int .u64 1)) (.nd 32 (.by 32 3) (.nd 1 (.rp 1 (.int .u64 1)) (.nd 3 (.nd 1 (.rp 1 (.slu 15 0 3 32)) (.nd 1 (.rp 1 (.slu 16 0 10 132)) (.rp 1 .nilSlice))) k31)))))))))) (.nd 1 (.rp 1 (.int .u64 7)) (.nd 1 (.rp 1 (.slu 17 0 5 32)) (.nd 32 (.by 32 5) (.nd 1 (.rp 1 (.int .u64 0)) (.nd 1 (.rp 1 (.int .i64 4)) (.nd 32 (.by 32 3) (.nd 1 (.rp 1 (.int .u64 1)) (.nd 32 (.by 32 3) (.nd 1 (.rp 1 (.int .u64 1)) (.nd 3 (.nd 1 (.rp 1 (.slu 18 0 3 32)) (.nd 1 (.rp 1 (.slu 19 0 10 132)) (.rp 1 .nilSlice))) k31)))))))))))))))) (.nd (.nd (.nd .lf (some (.cells 37 k70)) .lf) (some (.cells 47 k137)) .lf) (some (.cells 37 k70)) (.nd (.nd .lf (some (.cells 47 k80)) .lf) (some (.cells 36 k92)) .lf))))
def s6_0:H:=(.nd (.nd (.nd (.nd (.nd .lf (some (.cells 37 k70)) .lf) (some (.cells 36 k97)) .lf) (some (.cells 47 k73)) (.nd .lf (some (.cells 37 k70)) .lf)) (some (.cells 36 k97)) (.nd (.nd (.nd .lf (some (.cells 37 k70)) .lf) (some (.cells 47 k73)) .lf) (some (.cells 36 k97)) (.nd .lf (some (.cells 37 k70)) .lf))) (some (.cells 31 (.nd 1 (.rp 1 (.slu 1 0 6 32)) (.nd 1 (.rp 1 (.int .i64 0)) (.nd 1 (.rp 1 (.slice 2 0 6 6)) (.nd 1 (.rp 1 (.slu 3 0 2 132)) (.rp 1 (.slice 4 0 6 6)))))))) (.nd (.nd (.nd (.nd .lf (some (.cells 36 k97)) .lf) (some (.cells 37 k70)) .lf) (some (.cells 29 (.nd 1 (.rp 1 .nilSlice) (.nd 1 (.rp 1 (.slu 18 0 2 132)) (.rp 4 .nilSlice))))) (.nd .lf (some (.cells 36 k97)) .lf)) (some (.cells 40 (.nd 141 (.nd 1 (.rp 1 (.int .u64 7)) (.nd 1 (.rp 1 (.slu 5 0 6 32)) k93)) (.nd 141 (.nd 1 (.rp 1 (.int .u64 7)) (.nd 1 (.rp 1 (.slu 7 0 6 32)) k98)) (.nd 141 (.nd 1 (.rp 1 (.int .u64 7)) (.nd 1 (.rp 1 (.slu 10 0 6 32)) k94)) (.nd 141 (.nd 1 (.rp 1 (.int .u64 7)) (.nd 1 (.rp 1 (.slu 12 0 6 32)) k95)) (.nd 141 (.nd 1 (.rp 1 (.int .u64 7)) (.nd 1 (.rp 1 (.slu 14 0 6 32)) k96)) (.nd 1 (.rp 1 (.int .u64 7)) (.nd 1 (.rp 1 (.slu 16 0 6 32)) (.nd 32 (.by 32 6) (.nd 1 (.rp 1 (.int .u64 0)) (.nd 1 (.rp 1 (.int .i64 1)) (.nd 32 (.by 32 0) (.nd 1 (.rp 1 (.int .u64 0)) (.nd 32 (.by 32 0) (.nd 1 (.rp 1 (.int .u64 0)) (.nd 3 (.nd 1 (.rp 1 (.slu 17 0 3 32)) k0) k28))))))))))))))))) (.nd (.nd (.nd .lf (some (.cells 47 k73)) .lf) (some (.cells 36 k97)) .lf) (some (.cells 37 k70)) (.nd .lf (some (.cells 36 k97)) .lf))))
def s6_1:H:=(.nd (.nd (.nd (.nd (.nd .lf (some (.cells 37 k70)) .lf) (some (.cells 47 k104)) (.nd .lf (some (.cells 47 k36)) .lf)) (some (.cells 47 k134)) (.nd (.nd .lf (some (.cells 47 (.nd 792 k122 k60))) .lf) (some (.cells 36 k97)) (.nd .lf (some (.cells 47 k86)) .lf))) (some (.cells 36 k97)) (.nd (.nd (.nd .lf (some (.cells 36 k97)) .lf) (some (.cells 37 k70)) (.nd .lf (some (.cells 47 k39)) .lf)) (some (.cells 36 k97)) (.nd (.nd .lf (some (.cells 37 k70)) .lf) (some (.cells 47 k112)) .lf))) (some (.cells 31 (.nd 1 (.rp 1 (.slu 1 0 6 32)) (.nd 1 (.rp 1 (.int .i64 0)) (.nd 1 (.rp 1 (.slice 2 0 6 6)) (.nd 1 (.rp 1 (.slu 3 0 9 132)) (.rp 1 (.slice 4 0 6 6)))))))) (.nd (.nd (.nd (.nd .lf (some (.cells 47 k119)) .lf) (some (.cells 36 k97)) (.nd .lf (some (.cells 47 k73)) .lf)) (some (.cells 29 (.nd 1 (.rp 1 (.slu 23 0 1 132)) (.nd 1 (.rp 1 (.slu 24 0 2 132)) (.nd 1 (.rp 1 (.slu 25 0 1 132)) k25))))) (.nd (.nd .lf (some (.cells 36 k97)) .lf) (some (.cells 37 k70)) (.nd .lf (some (.cells 47 k85)) .lf))) (some (.cells 40 (.nd 141 (.nd 1 (.rp 1 (.int .u64 7)) (.nd 1 (.rp 1 (.slu 5 0 6 32)) k99)) (.nd 141 (.nd 1 (.rp 1 (.int .u64 7)) (.nd 1 (.rp 1 (.slu 8 0 6 32)) k100)) (.nd 141 (.nd 1 (.rp 1 (.int .u64 7)) (.nd 1 (.rp 1 (.slu 11 0 6 32)) k101)) (.nd 141 (.nd 1 (.rp 1 (.int .u64 7)) (.nd 1 (.rp 1 (.slu 14 0 6 32)) (.nd 32 (.by 32 4) (.nd 1 (.rp 1 (.int .u64 0)) (.nd 1 (.rp 1 (.int .i64 2)) (.nd 32 (.by 32 0) (.nd 1 (.rp 1 (.int .u64 0)) (.nd 32 (.by 32 0) (.nd 1 (.rp 1 (.int .u64 0)) (.nd 3 (.nd 1 (.rp 1 (.slu 15 0 3 32)) (.nd 1 (.rp 1 (.slu 16 0 5 132)) (.rp 1 .nilSlice))) k29)))))))))) (.nd 141 (.nd 1 (.rp 1 (.int .u64 7)) (.nd 1 (.rp 1 (.slu 17 0 6 32)) (.nd 32 (.by 32 5) (.nd 1 (.rp 1 (.int .u64 0)) (.nd 1 (.rp 1 (.int .i64 3)) (.nd 32 (.by 32 2) (.nd 1 (.rp 1 (.int .u64 1)) (.nd 32 (.by 32 2) (.nd 1 (.rp 1 (.int .u64 1)) (.nd 3 (.nd 1 (.rp 1 (.slu 18 0 3 32)) (.nd 1 (.rp 1 (.slu 19 0 7 132)) (.rp 1 .nilSlice))) k29)))))))))) (.nd 1 (.rp 1 (.int .u64 7)) (.nd 1 (.rp 1 (.slu 20 0 6 32)) (.nd 32 (.by 32 6) (.nd 1 (.rp 1 (.int .u64 0)) (.nd 1 (.rp 1 (.int .i64 3)) (.nd 32 (.by 32 2) (.nd 1 (.rp 1 (.int .u64 1)) (.nd 32 (.by 32 2) (.nd 1 (.rp 1 (.int .u64 1)) (.nd 3 (.nd 1 (.rp 1 (.slu 21 0 3 32)) (.nd 1 (.rp 1 (.slu 22 0 9 132)) (.rp 1 .nilSlice))) k29))))))))))))))))) (.nd (.nd (.nd .lf (some (.cells 37 k70)) .lf) (some (.cells 47 k104)) (.nd .lf (some (.cells 47 k58)) .lf)) (some (.cells 37 k70)) (.nd (.nd .lf (some (.cells 47 (.nd 1056 (.nd 924 k127 k60) k62))) .lf) (some (.cells 36 k97)) .lf))))
def s6_2:H:=(.nd (.nd (.nd (.nd (.nd .lf (some (.cells 37 k70)) .lf) (some (.cells 47 (.nd 1056 k132 k87))) (.nd .lf (some (.cells 47 k74)) .lf)) (some (.cells 47 (.nd 1452 (.nd 1320 (.nd 1188 k134 k37) k38) k40))) (.nd (.nd .lf (some (.cells 47 k139)) .lf) (some (.cells 36 k97)) (.nd .lf (some (.cells 47 k86)) .lf))) (some (.cells 36 k97)) (.nd (.nd (.nd .lf (some (.cells 36 k97)) .lf) (some (.cells 37 k70)) (.nd .lf (some (.cells 47 k75)) .lf)) (some (.cells 36 k97)) (.nd (.nd .lf (some (.cells 37 k70)) .lf) (some (.cells 47 k139)) .lf))) (some (.cells 31 (.nd 1 (.rp 1 (.slu 1 0 6 32)) (.nd 1 (.rp 1 (.int .i64 0)) (.nd 1 (.rp 1 (.slice 2 0 6 6)) (.nd 1 (.rp 1 (.slu 3 0 12 132)) (.rp 1 (.slice 4 0 6 6)))))))) (.nd (.nd (.nd (.nd .lf (some (.cells 47 k139)) .lf) (some (.cells 36 k97)) (.nd .lf (some (.cells 47 k105)) .lf)) (some (.cells 29 (.nd 1 (.rp 1 (.slu 23 0 2 132)) (.nd 1 (.rp 1 (.slu 24 0 3 132)) (.nd 1 (.rp 1 (.slu 25 0 2 132)) k25))))) (.nd (.nd .lf (some (.cells 36 k97)) .lf) (some (.cells 37 k70)) (.nd .lf (some (.cells 47 k85)) .lf))) (some (.cells 40 (.nd 141 (.nd 1 (.rp 1 (.int .u64 7)) (.nd 1 (.rp 1 (.slu 5 0 6 32)) (.nd 32 (.by 32 1) (.nd 1 (.rp 1 (.int .u64 0)) (.nd 1 (.rp 1 (.int .i64 3)) (.nd 32 (.by 32 2) (.nd 1 (.rp 1 (.int .u64 1)) (.nd 32 (.by 32 2) (.nd 1 (.rp 1 (.int .u64 1)) (.nd 3 (.nd 1 (.rp 1 (.slu 6 0 3 32)) (.nd 1 (.rp 1 (.slu 7 0 10 132)) (.rp 1 .nilSlice))) k29)))))))))) (.nd 141 (.nd 1 (.rp 1 (.int .u64 7)) (.nd 1 (.rp 1 (.slu 8 0 6 32)) (.nd 32 (.by 32 2) (.nd 1 (.rp 1 (.int .u64 0)) (.nd 1 (.rp 1 (.int .i64 3)) (.nd 32 (.by 32 2) (.nd 1 (.rp 1 (.int .u64 1)) (.nd 32 (.by 32 2) (.nd 1 (.rp 1 (.int .u64 1)) (.nd 3 (.nd 1 (.rp 1 (.slu 9 0 3 32)) (.nd 1 (.rp 1 (.slu 10 0 11 132)) (.rp 1 .nilSlice))) k29)))))))))) (.nd 141 (.nd 1 (.rp 1 (.int .u64 7)) (.nd 1 (.rp 1 (.slu 11 0 6 32)) (.nd 32 (.by 32 3) (.nd 1 (.rp 1 (.int .u64 0)) (.nd 1 (.rp 1 (.int .i64 4)) (.nd 32 (.by 32 2) (.nd 1 (.rp 1 (.int .u64 1)) (.nd 32 (.by 32 2) (.nd 1 (.rp 1 (.int .u64 1)) (.nd 3 (.nd 1 (.rp 1 (.slu 12 0 3 32)) (.nd 1 (.rp 1 (.slu 13 0 12 132)) (.rp 1 .nilSlice))) k30)))))))))) (.nd 141 (.nd 1 (.rp 1 (.int .u64 7)) (.nd 1 (.rp 1 (.slu 14 0 6 32)) (.nd 32 (.by 32 4) (.nd 1 (.rp 1 (.int .u64 0)) (.nd 1 (.rp 1 (.int .i64 4)) (.nd 32 (.by 32 0) (.nd 1 (.rp 1 (.int .u64 0)) (.nd 32 (.by 32 0) (.nd 1 (.rp 1 (.int .u64 0)) (.nd 3 (.nd 1 (.rp 1 (.slu 15 0 3 32)) (.nd 1 (.rp 1 (.slu 16 0 12 132)) (.rp 1 .nilSlice))) k30)))))))))) (.nd 141 (.nd 1 (.rp 1 (.int .u64 7)) (.nd 1 (.rp 1 (.slu 17 0 6 32)) (.nd 32 (.by 32 5) (.nd 1 (.rp 1 (.int .u64 0)) (.nd 1 (.rp 1 (.int .i64 4)) (.nd 32 (.by 32 2) (.nd 1 (.rp 1 (.int .u64 1)) (.nd 32 (.by 32 2) (.nd 1 (.rp 1 (.int .u64 1)) (.nd 3 (.nd 1 (.rp 1 (.slu 18 0 3 32)) (.nd 1 (.rp 1 (.slu 19 0 12 132)) (.rp 1 .nilSlice))) k30)))))))))) (.nd 1 (.rp 1 (.int .u64 7)) (.nd 1 (.rp 1 (.slu 20 0 6 32)) (.nd 32 (.by 32 6) (.nd 1 (.rp 1 (.int .u64 0)) (.nd 1 (.rp 1 (.int .i64 4)) (.nd 32 (.by 32 2) (.nd 1 (.rp 1 (.int .u64 1)) (.nd 32 (.by 32 2) (.nd 1 (.rp 1 (.int .u64 1)) (.nd 3 (.nd 1 (.rp 1 (.slu 21 0 3 32)) (.nd 1 (.rp 1 (.slu 22 0 12 132)) (.rp 1 .nilSlice))) k30))))))))))))))))) (.nd (.nd (.nd .lf (some (.cells 37 k70)) .lf) (some (.cells 47 (.nd 1188 k135 k87))) (.nd .lf (some (.cells 47 k58)) .lf)) (some (.cells 37 k70)) (.nd (.nd .lf (some (.cells 47 k139)) .lf) (some (.cells 36 k97)) .lf))))
def s6_3:H:=(.nd (.nd (.nd (.nd (.nd .lf (some (.cells 37 k70)) .lf) (some (.cells 47 k139)) (.nd .lf (some (.cells 47 k74)) .lf)) (some (.cells 47 (.nd 1452 (.nd 1320 (.nd 1188 k134 k37) k38) k40))) (.nd (.nd .lf (some (.cells 47 k139)) .lf) (some (.cells 36 k97)) (.nd .lf (some (.cells 47 k86)) .lf))) (some (.cells 36 k97)) (.nd (.nd (.nd .lf (some (.cells 36 k97)) .lf) (some (.cells 37 k70)) (.nd .lf (some (.cells 47 k75)) .lf)) (some (.cells 36 k97)) (.nd (.nd .lf (some (.cells 37 k70)) .lf) (some (.cells 47 k139)) .lf))) (some (.cells 31 (.nd 1 (.rp 1 (.slu 1 0 6 32)) (.nd 1 (.rp 1 (.int .i64 0)) (.nd 1 (.rp 1 (.slice 2 0 6 6)) (.nd 1 (.rp 1 (.slu 3 0 12 132)) (.rp 1 (.slice 4 0 6 6)))))))) (.nd (.nd (.nd (.nd .lf (some (.cells 47 k139)) .lf) (some (.cells 36 k97)) (.nd .lf (some (.cells 47 k105)) .lf)) (some (.cells 29 (.nd 1 (.rp 1 (.slu 23 0 2 132)) (.nd 1 (.rp 1 (.slu 24 0 3 132)) (.nd 1 (.rp 1 (.slu 25 0 2 132)) k25))))) (.nd (.nd .lf (some (.cells 36 k97)) .lf) (some (.cells 37 k70)) (.nd .lf (some (.cells 47 k85)) .lf))) (some (.cells 40 (.nd 141 (.nd 1 (.rp 1 (.int .u64 7)) (.nd 1 (.rp 1 (.slu 5 0 6 32)) (.nd 32 (.by 32 1) (.nd 1 (.rp 1 (.int .u64 0)) (.nd 1 (.rp 1 (.int .i64 4)) (.nd 32 (.by 32 2) (.nd 1 (.rp 1 (.int .u64 1)) (.nd 32 (.by 32 2) (.nd 1 (.rp 1 (.int .u64 1)) (.nd 3 (.nd 1 (.rp 1 (.slu 6 0 3 32)) (.nd 1 (.rp 1 (.slu 7 0 12 132)) (.rp 1 .nilSlice))) k30)))))))))) (.nd 141 (.nd 1 (.rp 1 (.int .u64 7)) (.nd 1 (.rp 1 (.slu 8 0 6 32)) (.nd 32 (.by 32 2) (.nd 1 (.rp 1 (.int .u64 0)) (.nd 1 (.rp 1 (.int .i64 4)) (.nd 32 (.by 32 2) (.nd 1 (.rp 1 (.int .u64 1)) (.nd 32 (.by 32 2) (.nd 1 (.rp 1 (.int .u64 1)) (.nd 3 (.nd 1 (.rp 1 (.slu 9 0 3 32)) (.nd 1 (.rp 1 (.slu 10 0 12 132)) (.rp 1 .nilSlice))) k30)))))))))) (.nd 141 (.nd 1 (.rp 1 (.int .u64 7)) (.nd 1 (.rp 1 (.slu 11 0 6 32)) (.nd 32 (.by 32 3) (.nd 1 (.rp 1 (.int .u64 0)) (.nd 1 (.rp 1 (.int .i64 4)) (.nd 32 (.by 32 2) (.nd 1 (.rp 1 (.int .u64 1)) (.nd 32 (.by 32 2) (.nd 1 (.rp 1 (.int .u64 1)) (.nd 3 (.nd 1 (.rp 1 (.slu 12 0 3 32)) (.nd 1 (.rp 1 (.slu 13 0 12 132)) (.rp 1 .nilSlice))) k30)))))))))) (.nd 141 (.nd 1 (.rp 1 (.int .u64 7)) (.nd 1 (.rp 1 (.slu 14 0 6 32)) (.nd 32 (.by 32 4) (.nd 1 (.rp 1 (.int .u64 0)) (.nd 1 (.rp 1 (.int .i64 4)) (.nd 32 (.by 32 0) (.nd 1 (.rp 1 (.int .u64 0)) (.nd 32 (.by 32 0) (.nd 1 (.rp 1 (.int .u64 0)) (.nd 3 (.nd 1 (.rp 1 (.slu 15 0 3 32)) (.nd 1 (.rp 1 (.slu 16 0 12 132)) (.rp 1 .nilSlice))) k30)))))))))) (.nd 141 (.nd 1 (.rp 1 (.int .u64 7)) (.nd 1 (.rp 1 (.slu 17 0 6 32)) (.nd 32 (.by 32 5) (.nd 1 (.rp 1 (.int .u64 0)) (.nd 1 (.rp 1 (.int .i64 4)) (.nd 32 (.by 32 2) (.nd 1 (.rp 1 (.int .u64 1)) (.nd 32 (.by 32 2) (.nd 1 (.rp 1 (.int .u64 1)) (.nd 3 (.nd 1 (.rp 1 (.slu 18 0 3 32)) (.nd 1 (.rp 1 (.slu 19 0 12 132)) (.rp 1 .nilSlice))) k30)))))))))) (.nd 1 (.rp 1 (.int .u64 7)) (.nd 1 (.rp 1 (.slu 20 0 6 32)) (.nd 32 (.by 32 6) (.nd 1 (.rp 1 (.int .u64 0)) (.nd 1 (.rp 1 (.int .i64 4)) (.nd 32 (.by 32 2) (.nd 1 (.rp 1 (.int .u64 1)) (.nd 32 (.by 32 2) (.nd 1 (.rp 1 (.int .u64 1)) (.nd 3 (.nd 1 (.rp 1 (.slu 21 0 3 32)) (.nd 1 (.rp 1 (.slu 22 0 12 132)) (.rp 1 .nilSlice))) k30))))))))))))))))) (.nd (.nd (.nd .lf (some (.cells 37 k70)) .lf) (some (.cells 47 k139)) (.nd .lf (some (.cells 47 k58)) .lf)) (some (.cells 37 k70)) (.nd (.nd .lf (some (.cells 47 k139)) .lf) (some (.cells 36 k97)) .lf))))
def s7_0:H:=(.nd (.nd (.nd (.nd (.nd .lf (some (.cells 37 k70)) .lf) (some (.cells 47 k72)) .lf) (some (.cells 47 k72)) (.nd (.nd .lf (some (.cells 37 k70)) .lf) (some (.cells 37 k70)) .lf)) (some (.cells 36 k109)) (.nd (.nd (.nd .lf (some (.cells 37 k70)) .lf) (some (.cells 37 k70)) .lf) (some (.cells 36 k109)) (.nd .lf (some (.cells 37 k70)) .lf))) (some (.cells 31 (.nd 1 (.rp 1 (.slu 1 0 7 32)) (.nd 1 (.rp 1 (.int .i64 0)) (.nd 1 (.rp 1 (.slice 2 0 7 7)) (.nd 1 (.rp 1 (.slu 3 0 2 132)) (.rp 1 (.slice 4 0 7 7)))))))) (.nd (.nd (.nd (.nd .lf (some (.cells 36 k109)) .lf) (some (.cells 36 k109)) .lf) (some (.cells 29 (.nd 1 (.rp 1 (.slu 20 0 2 132)) (.rp 6 .nilSlice)))) (.nd (.nd .lf (some (.cells 47 k72)) .lf) (some (.cells 36 k109)) .lf)) (some (.cells 40 (.nd 141 (.nd 1 (.rp 1 (.int .u64 7)) (.nd 1 (.rp 1 (.slu 5 0 7 32)) (.nd 32 (.by 32 1) (.nd 1 (.rp 1 (.int .u64 0)) (.nd 1 (.rp 1 (.int .i64 2)) (.nd 32 (.by 32 0) (.nd 1 (.rp 1 (.int .u64 0)) (.nd 32 (.by 32 0) (.nd 1 (.rp 1 (.int .u64 0)) (.nd 3 (.nd 1 (.rp 1 (.slu 6 0 3 32)) (.nd 1 (.rp 1 (.slu 7 0 2 132)) (.rp 1 .nilSlice))) k29)))))))))) (.nd 141 (.nd 1 (.rp 1 (.int .u64 7)) (.nd 1 (.rp 1 (.slu 8 0 7 32)) (.nd 32 (.by 32 2) (.nd 1 (.rp 1 (.int .u64 0)) (.nd 1 (.rp 1 (.int .i64 1)) (.nd 32 (.by 32 0) (.nd 1 (.rp 1 (.int .u64 0)) (.nd 32 (.by 32 0) (.nd 1 (.rp 1 (.int .u64 0)) (.nd 3 (.nd 1 (.rp 1 (.slu 9 0 3 32)) k0) k28)))))))))) (.nd 141 (.nd 1 (.rp 1 (.int .u64 7)) (.nd 1 (.rp 1 (.slu 10 0 7 32)) k94)) (.nd 141 (.nd 1 (.rp 1 (.int .u64 7)) (.nd 1 (.rp 1 (.slu 12 0 7 32)) k95)) (.nd 141 (.nd 1 (.rp 1 (.int .u64 7)) (.nd 1 (.rp 1 (.slu 14 0 7 32)) k96)) (.nd 141 (.nd 1 (.rp 1 (.int .u64 7)) (.nd 1 (.rp 1 (.slu 16 0 7 32)) (.nd 32 (.by 32 6) (.nd 1 (.rp 1 (.int .u64 0)) (.nd 1 (.rp 1 (.int .i64 1)) (.nd 32 (.by 32 0) (.nd 1 (.rp 1 (.int .u64 0)) (.nd 32 (.by 32 0) (.nd 1 (.rp 1 (.int .u64 0)) (.nd 3 (.nd 1 (.rp 1 (.slu 17 0 3 32)) k0) k28)))))))))) (.nd 1 (.rp 1 (.int .u64 7)) (.nd 1 (.rp 1 (.slu 18 0 7 32)) (.nd 32 (.by 32 7) (.nd 1 (.rp 1 (.int .u64 0)) (.nd 1 (.rp 1 (.int .i64 1)) (.nd 32 (.by 32 0) (.nd 1 (.rp 1 (.int .u64 0)) (.nd 32 (.by 32 0) (.nd 1 (.rp 1 (.int .u64 0)) (.nd 3 (.nd 1 (.rp 1 (.slu 19 0 3 32)) k0) k28)))))))))))))))))) (.nd (.nd (.nd .lf (some (.cells 36 k109)) .lf) (some (.cells 36 k109)) .lf) (some (.cells 37 k70)) (.nd .lf (some (.cells 36 k109)) .lf))))
def s7_1:H:=(.nd (.nd (.nd (.nd (.nd (.nd .lf (some (.cells 47 k88)) .lf) (some (.cells 37 k70)) .lf) (some (.cells 47 k72)) (.nd .lf (some (.cells 36 k109)) .lf)) (some (.cells 47 k138)) (.nd (.nd .lf (some (.cells 47 k128)) .lf) (some (.cells 36 k109)) (.nd .lf (some (.cells 47 k43)) .lf))) (some (.cells 36 k109)) (.nd (.nd (.nd .lf (some (.cells 36 k109)) .lf) (some (.cells 37 k70)) (.nd .lf (some (.cells 47 (.nd 1320 (.nd 1056 k133 k90) k68))) .lf)) (some (.cells 36 k109)) (.nd (.nd .lf (some (.cells 37 k70)) .lf) (some (.cells 47 k114)) (.nd .lf (some (.cells 47 k42)) .lf)))) (some (.cells 31 (.nd 1 (.rp 1 (.slu 1 0 7 32)) (.nd 1 (.rp 1 (.int .i64 0)) (.nd 1 (.rp 1 (.slice 2 0 7 7)) (.nd 1 (.rp 1 (.slu 3 0 11 132)) (.rp 1 (.slice 4 0 7 7)))))))) (.nd (.nd (.nd (.nd (.nd .lf (some (.cells 47 k89)) .lf) (some (.cells 47 k120)) .lf) (some (.cells 36 k109)) (.nd .lf (some (.cells 37 k70)) .lf)) (some (.cells 29 (.nd 1 (.rp 1 (.slu 26 0 2 132)) (.nd 1 (.rp 1 (.slu 27 0 1 132)) k69)))) (.nd (.nd .lf (some (.cells 36 k109)) .lf) (some (.cells 37 k70)) (.nd .lf (some (.cells 47 k45)) .lf))) (some (.cells 40 (.nd 141 (.nd 1 (.rp 1 (.int .u64 7)) (.nd 1 (.rp 1 (.slu 5 0 7 32)) (.nd 32 (.by 32 1) (.nd 1 (.rp 1 (.int .u64 0)) (.nd 1 (.rp 1 (.int .i64 2)) (.nd 32 (.by 32 0) (.nd 1 (.rp 1 (.int .u64 0)) (.nd 32 (.by 32 0) (.nd 1 (.rp 1 (.int .u64 0)) (.nd 3 (.nd 1 (.rp 1 (.slu 6 0 3 32)) (.nd 1 (.rp 1 (.slu 7 0 2 132)) (.rp 1 .nilSlice))) k29)))))))))) (.nd 141 (.nd 1 (.rp 1 (.int .u64 7)) (.nd 1 (.rp 1 (.slu 8 0 7 32)) k100)) (.nd 141 (.nd 1 (.rp 1 (.int .u64 7)) (.nd 1 (.rp 1 (.slu 11 0 7 32)) k101)) (.nd 141 (.nd 1 (.rp 1 (.int .u64 7)) (.nd 1 (.rp 1 (.slu 14 0 7 32)) (.nd 32 (.by 32 4) (.nd 1 (.rp 1 (.int .u64 0)) (.nd 1 (.rp 1 (.int .i64 2)) (.nd 32 (.by 32 0) (.nd 1 (.rp 1 (.int .u64 0)) (.nd 32 (.by 32 0) (.nd 1 (.rp 1 (.int .u64 0)) (.nd 3 (.nd 1 (.rp 1 (.slu 15 0 3 32)) (.nd 1 (.rp 1 (.slu 16 0 5 132)) (.rp 1 .nilSlice))) k29)))))))))) (.nd 141 (.nd 1 (.rp 1 (.int .u64 7)) (.nd 1 (.rp 1 (.slu 17 0 7 32)) (.nd 32 (.by 32 5) (.nd 1 (.rp 1 (.int .u64 0)) (.nd 1 (.rp 1 (.int .i64 3)) (.nd 32 (.by 32 1) (.nd 1 (.rp 1 (.int .u64 1)) (.nd 32 (.by 32 1) (.nd 1 (.rp 1 (.int .u64 1)) (.nd 3 (.nd 1 (.rp 1 (.slu 18 0 3 32)) (.nd 1 (.rp 1 (.slu 19 0 7 132)) (.rp 1 .nilSlice))) k29)))))))))) (.nd 141 (.nd 1 (.rp 1 (.int .u64 7)) (.nd 1 (.rp 1 (.slu 20 0 7 32)) (.nd 32 (.by 32 6) (.nd 1 (.rp 1 (.int .u64 0)) (.nd 1 (.rp 1 (.int .i64 3)) (.nd 32 (.by 32 1) (.nd 1 (.rp 1 (.int .u64 1)) (.nd 32 (.by 32 1) (.nd 1 (.rp 1 (.int .u64 1)) (.nd 3 (.nd 1 (.rp 1 (.slu 21 0 3 32)) (.nd 1 (.rp 1 (.slu 22 0 9 132)) (.rp 1 .nilSlice))) k29)))))))))) (.nd 1 (.rp 1 (.int .u64 7)) (.nd 1 (.rp 1 (.slu 23 0 7 32)) (.nd 32 (.by 32 7) (.nd 1 (.rp 1 (.int .u64 0)) (.nd 1 (.rp 1 (.int .i64 3)) (.nd 32 (.by 32 1) (.nd 1 (.rp 1 (.int .u64 1)) (.nd 32 (.by 32 1) (.nd 1 (.rp 1 (.int .u64 1)) (.nd 3 (.nd 1 (.rp 1 (.slu 24 0 3 32)) (.nd 1 (.rp 1 (.slu 25 0 11 132)) (.rp 1 .nilSlice))) k29)))))))))))))))))) (.nd (.nd (.nd .lf (some (.cells 37 k70)) .lf) (some (.cells 47 k107)) (.nd .lf (some (.cells 47 k72)) .lf)) (some (.cells 37 k70)) (.nd (.nd .lf (some (.cells 47 (.nd 1056 (.nd 924 k129 k64) k66))) .lf) (some (.cells 36 k109)) (.nd .lf (some (.cells 47 k91)) .lf)))))
def s7_2:H:=(.nd (.nd (.nd (.nd (.nd (.nd .lf (some (.cells 47 k88)) .lf) (some (.cells 37 k70)) .lf) (some (.cells 47 (.nd 1188 k136 k108))) (.nd .lf (some (.cells 36 k109)) .lf)) (some (.cells 47 (.nd 1584 (.nd 1452 k138 k33) k44))) (.nd (.nd .lf (some (.cells 47 k140)) .lf) (some (.cells 36 k109)) (.nd .lf (some (.cells 47 k79)) .lf))) (some (.cells 36 k109)) (.nd (.nd (.nd .lf (some (.cells 36 k109)) .lf) (some (.cells 37 k70)) (.nd .lf (some (.cells 47 k140)) .lf)) (some (.cells 36 k109)) (.nd (.nd .lf (some (.cells 37 k70)) .lf) (some (.cells 47 k140)) (.nd .lf (some (.cells 47 k42)) .lf)))) (some (.cells 31 (.nd 1 (.rp 1 (.slu 1 0 7 32)) (.nd 1 (.rp 1 (.int .i64 0)) (.nd 1 (.rp 1 (.slice 2 0 7 7)) (.nd 1 (.rp 1 (.slu 3 0 13 132)) (.rp 1 (.slice 4 0 7 7)))))))) (.nd (.nd (.nd (.nd (.nd .lf (some (.cells 47 k89)) .lf) (some (.cells 47 k140)) .lf) (some (.cells 36 k109)) (.nd .lf (some (.cells 37 k70)) .lf)) (some (.cells 29 (.nd 1 (.rp 1 (.slu 26 0 3 132)) (.nd 1 (.rp 1 (.slu 27 0 2 132)) k69)))) (.nd (.nd .lf (some (.cells 36 k109)) .lf) (some (.cells 37 k70)) (.nd .lf (some (.cells 47 k45)) .lf))) (some (.cells 40 (.nd 141 (.nd 1 (.rp 1 (.int .u64 7)) (.nd 1 (.rp 1 (.slu 5 0 7 32)) (.nd 32 (.by 32 1) (.nd 1 (.rp 1 (.int .u64 0)) (.nd 1 (.rp 1 (.int .i64 3)) (.nd 32 (.by 32 1) (.nd 1 (.rp 1 (.int .u64 1)) (.nd 32 (.by 32 1) (.nd 1 (.rp 1 (.int .u64 1)) (.nd 3 (.nd 1 (.rp 1 (.slu 6 0 3 32)) (.nd 1 (.rp 1 (.slu 7 0 12 132)) (.rp 1 .nilSlice))) k29)))))))))) (.nd 141 (.nd 1 (.rp 1 (.int .u64 7)) (.nd 1 (.rp 1 (.slu 8 0 7 32)) (.nd 32 (.by 32 2) (.nd 1 (.rp 1 (.int .u64 0)) (.nd 1 (.rp 1 (.int .i64 4)) (.nd 32 (.by 32 1) (.nd 1 (.rp 1 (.int .u64 1)) (.nd 32 (.by 32 1) (.nd 1 (.rp 1 (.int .u64 1)) (.nd 3 (.nd 1 (.rp 1 (.slu 9 0 3 32)) (.nd 1 (.rp 1 (.slu 10 0 13 132)) (.rp 1 .nilSlice))) k27)))))))))) (.nd 141 (.nd 1 (.rp 1 (.int .u64 7)) (.nd 1 (.rp 1 (.slu 11 0 7 32)) (.nd 32 (.by 32 3) (.nd 1 (.rp 1 (.int .u64 0)) (.nd 1 (.rp 1 (.int .i64 4)) (.nd 32 (.by 32 0) (.nd 1 (.rp 1 (.int .u64 0)) (.nd 32 (.by 32 0) (.nd 1 (.rp 1 (.int .u64 0)) (.nd 3 (.nd 1 (.rp 1 (.slu 12 0 3 32)) (.nd 1 (.rp 1 (.slu 13 0 13 132)) (.rp 1 .nilSlice))) k27)))))))))) (.nd 141 (.nd 1 (.rp 1 (.int .u64 7)) (.nd 1 (.rp 1 (.slu 14 0 7 32)) (.nd 32 (.by 32 4) (.nd 1 (.rp 1 (.int .u64 0)) (.nd 1 (.rp 1 (.int .i64 4)) (.nd 32 (.by 32 0) (.nd 1 (.rp 1 (.int .u64 0)) (.nd 32 (.by 32 0) (.nd 1 (.rp 1 (.int .u64 0)) (.nd 3 (.nd 1 (.rp 1 (.slu 15 0 3 32)) (.nd 1 (.rp 1 (.slu 16 0 13 132)) (.rp 1 .nilSlice))) k27)))))))))) (.nd 141 (.nd 1 (.rp 1 (.int .u64 7)) (.nd 1 (.rp 1 (.slu 17 0 7 32)) (.nd 32 (.by 32 5) (.nd 1 (.rp 1 (.int .u64 0)) (.nd 1 (.rp 1 (.int .i64 4)) (.nd 32 (.by 32 1) (.nd 1 (.rp 1 (.int .u64 1)) (.nd 32 (.by 32 1) (.nd 1 (.rp 1 (.int .u64 1)) (.nd 3 (.nd 1 (.rp 1 (.slu 18 0 3 32)) (.nd 1 (.rp 1 (.slu 19 0 13 132)) (.rp 1 .nilSlice))) k27)))))))))) (.nd 141 (.nd 1 (.rp 1 (.int .u64 7)) (.nd 1 (.rp 1 (.slu 20 0 7 32)) (.nd 32 (.by 32 6) (.nd 1 (.rp 1 (.int .u64 0)) (.nd 1 (.rp 1 (.int .i64 4)) (.nd 32 (.by 32 1) (.nd 1 (.rp 1 (.int .u64 1)) (.nd 32 (.by 32 1) (.nd 1 (.rp 1 (.int .u64 1)) (.nd 3 (.nd 1 (.rp 1 (.slu 21 0 3 32)) (.nd 1 (.rp 1 (.slu 22 0 13 132)) (.rp 1 .nilSlice))) k27)))))))))) (.nd 1 (.rp 1 (.int .u64 7)) (.nd 1 (.rp 1 (.slu 23 0 7 32)) (.nd 32 (.by 32 7) (.nd 1 (.rp 1 (.int .u64 0)) (.nd 1 (.rp 1 (.int .i64 4)) (.nd 32 (.by 32 1) (.nd 1 (.rp 1 (.int .u64 1)) (.nd 32 (.by 32 1) (.nd 1 (.rp 1 (.int .u64 1)) (.nd 3 (.nd 1 (.rp 1 (.slu 24 0 3 32)) (.nd 1 (.rp 1 (.slu 25 0 13 132)) (.rp 1 .nilSlice))) k27)))))))))))))))))) (.nd (.nd (.nd .lf (some (.cells 37 k70)) .lf) (some (.cells 47 k140)) (.nd .lf (some (.cells 47 k102)) .lf)) (some (.cells 37 k70)) (.nd (.nd .lf (some (.cells 47 k140)) .lf) (some (.cells 36 k109)) (.nd .lf (some (.cells 47 k91)) .lf)))))
def s7_3:H:=(.nd (.nd (.nd (.nd (.nd (.nd .lf (some (.cells 47 k88)) .lf) (some (.cells 37 k70)) .lf) (some (.cells 47 k140)) (.nd .lf (some (.cells 36 k109)) .lf)) (some (.cells 47 (.nd 1584 (.nd 1452 k138 k33) k44))) (.nd (.nd .lf (some (.cells 47 k140)) .lf) (some (.cells 36 k109)) (.nd .lf (some (.cells 47 k79)) .lf))) (some (.cells 36 k109)) (.nd (.nd (.nd .lf (some (.cells 36 k109)) .lf) (some (.cells 37 k70)) (.nd .lf (some (.cells 47 k140)) .lf)) (some (.cells 36 k109)) (.nd (.nd .lf (some (.cells 37 k70)) .lf) (some (.cells 47 k140)) (.nd .lf (some (.cells 47 k42)) .lf)))) (some (.cells 31 (.nd 1 (.rp 1 (.slu 1 0 7 32)) (.nd 1 (.rp 1 (.int .i64 0)) (.nd 1 (.rp 1 (.slice 2 0 7 7)) (.nd 1 (.rp 1 (.slu 3 0 13 132)) (.rp 1 (.slice 4 0 7 7)))))))) (.nd (.nd (.nd (.nd (.nd .lf (some (.cells 47 k89)) .lf) (some (.cells 47 k140)) .lf) (some (.cells 36 k109)) (.nd .lf (some (.cells 37 k70)) .lf)) (some (.cells 29 (.nd 1 (.rp 1 (.slu 26 0 3 132)) (.nd 1 (.rp 1 (.slu 27 0 2 132)) k69)))) (.nd (.nd .lf (some (.cells 36 k109)) .lf) (some (.cells 37 k70)) (.nd .lf (some (.cells 47 k45)) .lf))) (some (.cells 40 (.nd 141 (.nd 1 (.rp 1 (.int .u64 7)) (.nd 1 (.rp 1 (.slu 5 0 7 32)) (.nd 32 (.by 32 1) (.nd 1 (.rp 1 (.int .u64 0)) (.nd 1 (.rp 1 (.int .i64 4)) (.nd 32 (.by 32 1) (.nd 1 (.rp 1 (.int .u64 1)) (.nd 32 (.by 32 1) (.nd 1 (.rp 1 (.int .u64 1)) (.nd 3 (.nd 1 (.rp 1 (.slu 6 0 3 32)) (.nd 1 (.rp 1 (.slu 7 0 13 132)) (.rp 1 .nilSlice))) k27)))))))))) (.nd 141 (.nd 1 (.rp 1 (.int .u64 7)) (.nd 1 (.rp 1 (.slu 8 0 7 32)) (.nd 32 (.by 32 2) (.nd 1 (.rp 1 (.int .u64 0)) (.nd 1 (.rp 1 (.int .i64 4)) (.nd 32 (.by 32 1) (.nd 1 (.rp 1 (.int .u64 1)) (.nd 32 (.by 32 1) (.nd 1 (.rp 1 (.int .u64 1)) (.nd 3 (.nd 1 (.rp 1 (.slu 9 0 3 32)) (.nd 1 (.rp 1 (.slu 10 0 13 132)) (.rp 1 .nilSlice))) k27)))))))))) (.nd 141 (.nd 1 (.rp 1 (.int .u64 7)) (.nd 1 (.rp 1 (.slu 11 0 7 32)) (.nd 32 (.by 32 3) (.nd 1 (.rp 1 (.int .u64 0)) (.nd 1 (.rp 1 (.int .i64 4)) (.nd 32 (.by 32 0) (.nd 1 (.rp 1 (.int .u64 0)) (.nd 32 (.by 32 0) (.nd 1 (.rp 1 (.int .u64 0)) (.nd 3 (.nd 1 (.rp 1 (.slu 12 0 3 32)) (.nd 1 (.rp 1 (.slu 13 0 13 132)) (.rp 1 .nilSlice))) k27)))))))))) (.nd 141 (.nd 1 (.rp 1 (.int .u64 7)) (.nd 1 (.rp 1 (.slu 14 0 7 32)) (.nd 32 (.by 32 4) (.nd 1 (.rp 1 (.int .u64 0)) (.nd 1 (.rp 1 (.int .i64 4)) (.nd 32 (.by 32 0) (.nd 1 (.rp 1 (.int .u64 0)) (.nd 32 (.by 32 0) (.nd 1 (.rp 1 (.int .u64 0)) (.nd 3 (.nd 1 (.rp 1 (.slu 15 0 3 32)) (.nd 1 (.rp 1 (.slu 16 0 13 132)) (.rp 1 .nilSlice))) k27)))))))))) (.nd 141 (.nd 1 (.rp 1 (.int .u64 7)) (.nd 1 (.rp 1 (.slu 17 0 7 32)) (.nd 32 (.by 32 5) (.nd 1 (.rp 1 (.int .u64 0)) (.nd 1 (.rp 1 (.int .i64 4)) (.nd 32 (.by 32 1) (.nd 1 (.rp 1 (.int .u64 1)) (.nd 32 (.by 32 1) (.nd 1 (.rp 1 (.int .u64 1)) (.nd 3 (.nd 1 (.rp 1 (.slu 18 0 3 32)) (.nd 1 (.rp 1 (.slu 19 0 13 132)) (.rp 1 .nilSlice))) k27)))))))))) (.nd 141 (.nd 1 (.rp 1 (.int .u64 7)) (.nd 1 (.rp 1 (.slu 20 0 7 32)) (.nd 32 (.by 32 6) (.nd 1 (.rp 1 (.int .u64 0)) (.nd 1 (.rp 1 (.int .i64 4)) (.nd 32 (.by 32 1) (.nd 1 (.rp 1 (.int .u64 1)) (.nd 32 (.by 32 1) (.nd 1 (.rp 1 (.int .u64 1)) (.nd 3 (.nd 1 (.rp 1 (.slu 21 0 3 32)) (.nd 1 (.rp 1 (.slu 22 0 13 132)) (.rp 1 .nilSlice))) k27)))))))))) (.nd 1 (.rp 1 (.int .u64 7)) (.nd 1 (.rp 1 (.slu 23 0 7 32)) (.nd 32 (.by 32 7) (.nd 1 (.rp 1 (.int .u64 0)) (.nd 1 (.rp 1 (.int .i64 4)) (.nd 32 (.by 32 1) (.nd 1 (.rp 1 (.int .u64 1)) (.nd 32 (.by 32 1) (.nd 1 (.rp 1 (.int .u64 1)) (.nd 3 (.nd 1 (.rp 1 (.slu 24 0 3 32)) (.nd 1 (.rp 1 (.slu 25 0 13 132)) (.rp 1 .nilSlice))) k27)))))))))))))))))) (.nd (.nd (.nd .lf (some (.cells 37 k70)) .lf) (some (.cells 47 k140)) (.nd .lf (some (.cells 47 k102)) .lf)) (some (.cells 37 k70)) (.nd (.nd .lf (some (.cells 47 k140)) .lf) (some (.cells 36 k109)) (.nd .lf (some (.cells 47 k91)) .lf)))))
end Go.Proofs.YtlmdfhkdeieceaaGreat
