import Derived.Test.YtfpadnmdafiddaaGreatDoorMI
set_option linter.all false
set_option maxHeartbeats 16000000
set_option maxRecDepth 100000
namespace Go.Proofs.YtfpadnmdafiddaaGreatDoor
theorem insI_iff {key v:Bs} {y:Bs×Bs}:∀ {l:dO},Srt l→(y∈gU key v l↔y=(key,v)∨(y∈l∧y.1≠key))
 | [],_=>by simp [gU]
 | x::l,h=>by
  obtain ⟨h1,h2⟩:=List.pairwise_cons.1 h
  have ih:=insI_iff (key:=key) (v:=v) (y:=y) h2
  unfold gU
  by_cases hx:hX x.1 key
  ·rw [if_pos hx,List.mem_cons,ih,List.mem_cons]
   have hne:x.1≠key:=λ e=>dC key (by rw [e] at hx;exact hx)
   constructor
   ·rintro (rfl|h|⟨h,h'⟩)
    ·exact .inr ⟨.inl rfl,hne⟩
    ·exact .inl h
    ·exact .inr ⟨.inr h,h'⟩
   ·rintro (h|⟨h|h,h'⟩)
    ·exact .inr (.inl h)
    ·exact .inl h
    ·exact .inr (.inr ⟨h,h'⟩)
  ·rw [if_neg hx]
   by_cases he:x.1=key
   ·rw [if_pos he,List.mem_cons,List.mem_cons]
    have hl:∀ z∈l,z.1≠key:=λ z hz e=>by
     have:=h1 z hz
     rw [he,e] at this
     exact dC _ this
    constructor
    ·rintro (h|h)
     ·exact .inl h
     ·exact .inr ⟨.inr h,hl y h⟩
    ·rintro (h|⟨rfl|h,h'⟩)
     ·exact .inl h
     ·exact absurd he h'
     ·exact .inr h
   ·rw [if_neg he,List.mem_cons,List.mem_cons]
    have hk:hX key x.1:=by
     rcases klt_or key x.1 with g|g|g
     ·exact g
     ·exact absurd g.symm he
     ·exact absurd g hx
    have hl:∀ z∈l,z.1≠key:=λ z hz e=>by
     have:=gI hk (h1 z hz)
     rw [e] at this
     exact dC _ this
    constructor
    ·rintro (h|h|h)
     ·exact .inl h
     ·subst h;exact .inr ⟨.inl rfl,he⟩
     ·exact .inr ⟨.inr h,hl y h⟩
    ·rintro (h|⟨h,h'⟩)
     ·exact .inl h
     ·exact .inr h
theorem delI_iff {key:Bs} {y:Bs×Bs} {l:dO}:y∈gV key l↔y∈l∧y.1≠key:=by
 unfold gV
 rw [List.mem_filter]
 simp
end Go.Proofs.YtfpadnmdafiddaaGreatDoor
