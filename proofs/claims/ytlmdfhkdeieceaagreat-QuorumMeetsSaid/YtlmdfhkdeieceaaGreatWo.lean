import Derived.Test.YtlmdfhkdeieceaaGreatWl
set_option linter.all false
set_option maxHeartbeats 16000000
set_option maxRecDepth 100000
namespace Go.Proofs.YtlmdfhkdeieceaaGreat
open Go Go.RowKit Go.V Go.E
set_option maxRecDepth 1000000
instance noNames:Gl:=plainGl λ _=>none
theorem lives_run:callN false ctx1 true 100 0 0 (.fn 5) [] .lf 0 (λ v _ _=>isT v)=true:=by kernel_rfl
theorem lives_c (w:World):Calls Tryz.prog 5 #[] w (Ret λ x w'=>x=.bool true∧Grow w w') :=
  top_ok (λ _=>rfl) (by kernel_rfl) ctx1_ok (fi:=fiOf Tryz.f5) (by kernel_rfl) (by kernel_rfl) [] [] (λ _=>.nil) 100 lives_run w
def keyC (i:Nat):List Value:=.int .u8 ((i+1:Nat):Int)::List.replicate 31 (.int .u8 0)
theorem keyC_len (i:Nat):(keyC i).length=32:=rfl
def less:V→Bool
  | .at (.int .i64 a)=>Nat.beq a 18446744073709551615
  | _=>false
theorem cmp_run:((List.range 15).all λ i=>callN false ctx1 true 100 0 0 (.fn 59) [.agg (.by 32 (i+1)),.agg (.by 32 (i+2))] .lf 0 (λ v _ _=>less v))=true:=by kernel_rfl
theorem key_vr (i:Nat) (hi:i<16) [Gl] (ρ : Plc):VR ρ (.agg (.by 32 (i+1))) (.agg (keyC i).toArray):=by
  refine .agg _ _ ?_
  have e:keyC i=bcells 32 (i+1):=by
    have h0:∀ k,k∈List.range 31→byteAt (i+1) (k+1)=0:=λ k hk=>by
      unfold byteAt
      rw [Nat.div_eq_of_lt]
      calc i+1<256^1:=by omega
        _≤256^(k+1):=Nat.pow_le_pow_right (by decide) (by omega)
    have h1:byteAt (i+1) 0=i+1:=by unfold byteAt;simp;omega
    show _=(List.range (31+1)).map _
    rw [List.range_succ_eq_map,List.map_cons,List.map_map,h1]
    unfold keyC
    rw [List.map_congr_left (g:=λ _=>Value.int .u8 0) (λ k hk=>by simp only [Function.comp];rw [h0 k hk];rfl)]
    rfl
  rw [e]
  exact .bys _ _ (by calc i + 1 < 256 ^ 1 := by omega
        _≤256^32:=Nat.pow_le_pow_right (by decide) (by decide))
theorem cmp_c (i:Nat) (hi:i<15) (w:World):Calls Tryz.prog 59 #[.agg (keyC i).toArray,.agg (keyC (i+1)).toArray] w (Ret λ x w'=>x=.int .i64 (-1)∧Grow w w'):=by
  have hr:=List.all_eq_true.1 cmp_run i (List.mem_range.2 hi)
  refine (top_gen (P:=Tryz.prog) (by kernel_rfl) ctx1_ok (fi:=fiOf Tryz.f59) (by kernel_rfl) (by kernel_rfl) _ [.agg (keyC i).toArray,.agg (keyC (i+1)).toArray] 100 less .lf 0 _ w (@Rel.none _ (λ _=>rfl) (tabOf ctx1) w) (.cons _ _ _ _ (key_vr i (by omega) _) (.cons _ _ _ _ (key_vr (i+1) (by omega) _) .nil)) hr).mono λ e w' ⟨x,h1,⟨ρ',v,_,h2,h3⟩,hg⟩=>⟨x,h1,?_,hg⟩
  unfold less at h2
  split at h2
  . cases Nat.eq_of_beq_eq_true h2
    have:=h3.atom
    cases this
    rfl
  . cases h2
end Go.Proofs.YtlmdfhkdeieceaaGreat
