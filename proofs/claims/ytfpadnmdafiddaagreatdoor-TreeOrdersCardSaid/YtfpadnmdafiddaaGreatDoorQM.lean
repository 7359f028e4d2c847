import Derived.Test.YtfpadnmdafiddaaGreatDoorQI
set_option linter.all false
set_option maxHeartbeats 16000000
set_option maxRecDepth 100000
namespace Go.Proofs.YtfpadnmdafiddaaGreatDoor
theorem srt_ext:∀ {l r:Its},Srt l→Srt r→(∀ x,x∈l↔x∈r)→l=r
 | [],[],_,_,_=>rfl
 | [],y::r,_,_,h=>by have:=(h y).2 (by simp);cases this
 | x::l,[],_,_,h=>by have:=(h x).1 (by simp);cases this
 | x::l,y::r,hl,hr,h=>by
  obtain ⟨l1,l2⟩:=List.pairwise_cons.1 hl
  obtain ⟨r1,r2⟩:=List.pairwise_cons.1 hr
  have hxy:x=y:=by
   rcases List.mem_cons.1 ((h x).1 (by simp)) with e|hx
   ·exact e
   ·rcases List.mem_cons.1 ((h y).2 (by simp)) with e|hy
    ·exact e.symm
    ·exact absurd (klt_trans (l1 y hy) (r1 x hx)) (klt_irrefl _)
  subst hxy
  congr 1
  refine srt_ext l2 r2 λ z=>⟨λ hz=>?_,λ hz=>?_⟩
  ·rcases List.mem_cons.1 ((h z).1 (List.mem_cons_of_mem _ hz)) with e|h2
   ·subst e;exact absurd (l1 z hz) (klt_irrefl _)
   ·exact h2
  ·rcases List.mem_cons.1 ((h z).2 (List.mem_cons_of_mem _ hz)) with e|h2
   ·subst e;exact absurd (r1 z hz) (klt_irrefl _)
   ·exact h2
theorem insI_iff {key v:Bs} {y:Bs×Bs}:∀ {l:Its},Srt l→(y∈insI key v l↔y=(key,v)∨(y∈l∧y.1≠key))
 | [],_=>by simp [insI]
 | x::l,h=>by
  obtain ⟨h1,h2⟩:=List.pairwise_cons.1 h
  have ih:=insI_iff (key:=key) (v:=v) (y:=y) h2
  unfold insI
  by_cases hx:klt x.1 key
  ·rw [if_pos hx,List.mem_cons,ih,List.mem_cons]
   have hne:x.1≠key:=λ e=>klt_irrefl key (by rw [e] at hx;exact hx)
   constructor
   ·rintro (rfl|h|⟨h,h'⟩)
    ·exact .inr ⟨.inl rfl,hne⟩
    ·exact .inl h
    ·exact .inr ⟨.inr h,h'⟩
   ·rintro (h|⟨h|h,h'⟩)
    ·exact .inr (.inl h)
    ·exact .inl h
    ·exact .inr (.inr ⟨h,h'⟩)
  ·rw [if_neg hx]
   by_cases he:x.1=key
   ·rw [if_pos he,List.mem_cons,List.mem_cons]
    have hl:∀ z∈l,z.1≠key:=λ z hz e=>by
     have:=h1 z hz
     rw [he,e] at this
     exact klt_irrefl _ this
    constructor
    ·rintro (h|h)
     ·exact .inl h
     ·exact .inr ⟨.inr h,hl y h⟩
    ·rintro (h|⟨rfl|h,h'⟩)
     ·exact .inl h
     ·exact absurd he h'
     ·exact .inr h
   ·rw [if_neg he,List.mem_cons,List.mem_cons]
    have hk:klt key x.1:=by
     rcases klt_or key x.1 with g|g|g
     ·exact g
     ·exact absurd g.symm he
     ·exact absurd g hx
    have hl:∀ z∈l,z.1≠key:=λ z hz e=>by
     have:=klt_trans hk (h1 z hz)
     rw [e] at this
     exact klt_irrefl _ this
    constructor
    ·rintro (h|h|h)
     ·exact .inl h
     ·subst h;exact .inr ⟨.inl rfl,he⟩
     ·exact .inr ⟨.inr h,hl y h⟩
    ·rintro (h|⟨h,h'⟩)
     ·exact .inl h
     ·exact .inr h
theorem delI_iff {key:Bs} {y:Bs×Bs} {l:Its}:y∈delI key l↔y∈l∧y.1≠key:=by
 unfold delI
 rw [List.mem_filter]
 simp
def putAll (ks:List Bs):Its:=ks.foldl (λ l k=>insI k k l) []
theorem putAll_snoc (ks:List Bs) (k:Bs):putAll (ks++[k])=insI k k (putAll ks):=by simp [putAll]
theorem putAll_srt:∀ ks:List Bs,Srt (putAll ks):=by
 intro ks
 have key:∀ (ks:List Bs) (l:Its),Srt l→Srt (ks.foldl (λ l k=>insI k k l) l):=by
  intro ks
  induction ks with
  | nil=>intro l h;exact h
  | cons k ks ih=>intro l h;exact ih _ (insI_srt h)
 exact key ks [] List.Pairwise.nil
theorem putAll_iff (ks:List Bs) (y:Bs×Bs):y∈putAll ks↔y.1∈ks∧y.2=y.1:=by
 have key:∀ (ks:List Bs) (l:Its),Srt l→(y∈ks.foldl (λ l k=>insI k k l) l↔(y.1∈ks∧y.2=y.1)∨(y∈l∧y.1∉ks)):=by
  intro ks
  induction ks with
  | nil=>intro l h;simp
  | cons k ks ih =>
   intro l h
   rw [List.foldl_cons,ih _ (insI_srt h),insI_iff h]
   constructor
   ·rintro (⟨h1,h2⟩|⟨h1|⟨h1,h2⟩,h3⟩)
    ·exact .inl ⟨List.mem_cons_of_mem _ h1,h2⟩
    ·subst h1;exact .inl ⟨by simp,rfl⟩
    ·exact .inr ⟨h1,by simp only [List.mem_cons,not_or];exact ⟨h2,h3⟩⟩
   ·rintro (⟨h1,h2⟩|⟨h1,h2⟩)
    ·by_cases hm:y.1∈ks
     ·exact .inl ⟨hm,h2⟩
     ·rcases List.mem_cons.1 h1 with e|h1
      ·refine .inr ⟨.inl ?_,hm⟩
       rw [← e]
       exact Prod.ext rfl h2
      ·exact absurd h1 hm
    ·simp only [List.mem_cons,not_or] at h2
     exact .inr ⟨.inr ⟨h1,h2.1⟩,h2.2⟩
 rw [putAll,key ks [] List.Pairwise.nil]
 simp
theorem putAll_rev (ks:List Bs):putAll ks.reverse=putAll ks:=srt_ext (putAll_srt _) (putAll_srt _) λ x=>by rw [putAll_iff,putAll_iff,List.mem_reverse]
theorem putAll_again {ks:List Bs} {k:Bs} (h:k∈ks):insI k k (putAll ks)=putAll ks:=srt_ext (insI_srt (putAll_srt _)) (putAll_srt _) λ x=>by
 rw [insI_iff (putAll_srt _),putAll_iff]
 constructor
 ·rintro (rfl|⟨h1,_⟩)
  ·exact ⟨h,rfl⟩
  ·exact h1
 ·rintro ⟨h1,h2⟩
  by_cases he:x.1=k
  ·left;rw [← he];exact Prod.ext rfl h2
  ·exact .inr ⟨⟨h1,h2⟩,he⟩
theorem putAll_back {ks:List Bs} {k:Bs} (h:k∈ks):insI k k (delI k (putAll ks))=putAll ks:=srt_ext (insI_srt (delI_srt (putAll_srt _))) (putAll_srt _) λ x=>by
 rw [insI_iff (delI_srt (putAll_srt _)),delI_iff,putAll_iff]
 constructor
 ·rintro (rfl|⟨⟨h1,_⟩,_⟩)
  ·exact ⟨h,rfl⟩
  ·exact h1
 ·rintro ⟨h1,h2⟩
  by_cases he:x.1=k
  ·left;rw [← he];exact Prod.ext rfl h2
  ·exact .inr ⟨⟨⟨h1,h2⟩,he⟩,he⟩
theorem insI_new {k v:Bs}:∀ {l:Its},(∀ x∈l,x.1≠k)→(insI k v l).length=l.length+1
 | [],_=>rfl
 | x::l,h=>by
  unfold insI
  split
  ·simp only [List.length_cons,insI_new λ y hy=>h y (List.mem_cons_of_mem _ hy)]
  ·rw [if_neg (h x (by simp))];rfl
theorem delI_there {k:Bs}:∀ {l:Its},Srt l→(∃ x∈l,x.1=k)→(delI k l).length+1=l.length
 | [],_,h=>by obtain ⟨x,hx,_⟩:=h;cases hx
 | x::l,hs,h=>by
  obtain ⟨h1,h2⟩:=List.pairwise_cons.1 hs
  unfold delI
  by_cases he:x.1=k
  ·rw [List.filter_cons_of_neg (by simp [he])]
   have:delI k l=l:=delI_same λ y hy e=>by
    have:=h1 y hy
    rw [he,e] at this
    exact klt_irrefl _ this
   unfold delI at this
   rw [this];rfl
  ·rw [List.filter_cons_of_pos (by simp [he])]
   have ih:=delI_there (k:=k) h2 (by
    obtain ⟨y,hy,e⟩:=h
    rcases List.mem_cons.1 hy with rfl|hy
    ·exact absurd e he
    ·exact ⟨y,hy,e⟩)
   unfold delI at ih
   simp only [List.length_cons]
   omega
theorem putAll_len {ks:List Bs} (h:ks.Nodup):(putAll ks).length=ks.length:=by
 have key:∀ (r:List Bs),r.Nodup→(putAll r.reverse).length=r.length:=by
  intro r
  induction r with
  | nil=>intro _;rfl
  | cons k r ih =>
   intro hn
   obtain ⟨h1,h2⟩:=List.nodup_cons.1 hn
   rw [List.reverse_cons,putAll_snoc,insI_new,ih h2]
   ·rfl
   ·intro x hx e
    rw [putAll_iff,List.mem_reverse,e] at hx
    exact h1 hx.1
 have:=key ks.reverse (by rw [List.Nodup,List.pairwise_reverse];exact h.imp λ h=>Ne.symm h)
 rw [List.reverse_reverse,List.length_reverse] at this
 exact this
theorem putAll_le (ks:List Bs):(putAll ks).length≤ks.length:=by
 have key:∀ (r:List Bs),(putAll r.reverse).length≤r.length:=by
  intro r
  induction r with
  | nil=>simp [putAll]
  | cons k r ih =>
   rw [List.reverse_cons,putAll_snoc]
   have:=(insI_len k k (putAll r.reverse)).2
   simp only [List.length_cons]
   omega
 have:=key ks.reverse
 rwa [List.reverse_reverse,List.length_reverse] at this
def takeK (ks:List Bs) (k:Bs):List Bs:=if keyOk k=true∧k∉ks then ks++[k] else ks
def keysOf (l:List Bs):List Bs:=l.foldl takeK []
theorem keysOf_snoc (l:List Bs) (k:Bs):keysOf (l++[k])=takeK (keysOf l) k:=by simp [keysOf]
theorem takeK_ok {ks:List Bs} {k:Bs} (h:ks.Nodup∧∀ x∈ks,keyOk x=true):(takeK ks k).Nodup∧∀ x∈takeK ks k,keyOk x=true:=by
 unfold takeK
 split
 ·rename_i hk
  refine ⟨?_,λ x hx=>?_⟩
  ·rw [List.nodup_append]
   refine ⟨h.1,by simp,λ a ha b hb=>?_⟩
   simp only [List.mem_singleton] at hb
   subst hb
   exact λ e=>hk.2 (e▸ha)
  ·rcases List.mem_append.1 hx with hx|hx
   ·exact h.2 x hx
   ·simp only [List.mem_singleton] at hx;subst hx;exact hk.1
 ·exact h
theorem keysOf_ok (l:List Bs):(keysOf l).Nodup∧∀ x∈keysOf l,keyOk x=true:=by
 have key:∀ (l ks:List Bs),(ks.Nodup∧∀ x∈ks,keyOk x=true)→(l.foldl takeK ks).Nodup∧∀ x∈l.foldl takeK ks,keyOk x=true:=by
  intro l
  induction l with
  | nil=>intro ks h;exact h
  | cons k l ih=>intro ks h;exact ih _ (takeK_ok h)
 exact key l [] ⟨List.nodup_nil,by simp⟩
theorem takeK_le (ks:List Bs) (k:Bs):ks.length≤(takeK ks k).length∧(takeK ks k).length≤ks.length+1:=by
 unfold takeK
 split<;>simp
theorem keysOf_le (l:List Bs):(keysOf l).length≤l.length:=by
 have key:∀ (l ks:List Bs),(l.foldl takeK ks).length≤ks.length+l.length:=by
  intro l
  induction l with
  | nil=>intro ks;simp
  | cons k l ih=>intro ks;have:=ih (takeK ks k);have:=(takeK_le ks k).2;simp only [List.foldl_cons,List.length_cons];omega
 have:=key l []
 simpa [keysOf] using this
theorem takeK_mem {ks:List Bs} {k x:Bs} (h:x∈takeK ks k):x∈ks∨x=k:=by
 unfold takeK at h
 split at h
 ·simpa using h
 ·exact .inl h
theorem keysOf_mem {l:List Bs} {x:Bs} (h:x∈keysOf l):x∈l:=by
 have key:∀ (l ks:List Bs),x∈l.foldl takeK ks→x∈ks∨x∈l:=by
  intro l
  induction l with
  | nil=>intro ks h;exact .inl h
  | cons k l ih =>
   intro ks h
   rcases ih _ h with h|h
   ·rcases takeK_mem h with h|h
    ·exact .inl h
    ·subst h;exact .inr (by simp)
   ·exact .inr (List.mem_cons_of_mem _ h)
 rcases key l [] h with h|h
 ·cases h
 ·exact h
end Go.Proofs.YtfpadnmdafiddaaGreatDoor
