import Derived.Test.YtfpadnmdafiddaaGreatDoorKc
import Derived.Test.YtfpadnmdafiddaaGreatDoorKe
set_option linter.all false
set_option maxHeartbeats 16000000
set_option maxRecDepth 100000
namespace Go.Proofs.YtfpadnmdafiddaaGreatDoor
theorem del_eq (key:Bs):∀ {l:dS},Srt l→gA l key=true→cL l (fX l key) (fX l key+1)=iK key l
 | [],_,h=>by simp [gA,fX] at h
 | x::l,h,ht=>by
  obtain ⟨h1,h2⟩:=List.pairwise_cons.1 h
  rw [lS]
  rw [thereN_cons] at ht
  by_cases hx:iM x.1 key
  ·rw [if_pos hx] at ht ⊢
   have hne:x.1≠key:=λ e=>by rw [e] at hx;exact dF _ hx
   have ih:=del_eq key h2 ht
   simp only [iK,List.filter_cons,hne,ne_eq,not_false_eq_true,decide_true,if_true] at ih ⊢
   rw [← ih]
   simp [cL]
  ·rw [if_neg hx] at ht ⊢
   have e:x.1=key:=by simpa using ht
   have hd:iK key (x::l)=iK key l:=by simp [iK,e]
   rw [hd,delI_same λ y hy e2=>by
    have:=h1 y hy
    rw [e,e2] at this
    exact dF _ this]
   simp [cL]
theorem del_len (key:Bs):∀ {l:dS},Srt l→l.length≤(iK key l).length+1
 | [],_=>by simp
 | x::l,h=>by
  obtain ⟨h1,h2⟩:=List.pairwise_cons.1 h
  by_cases e:x.1=key
  ·have:iK key l=l:=delI_same λ y hy e2=>by
    have:=h1 y hy
    rw [e,e2] at this
    exact dF _ this
   simp only [iK,List.filter_cons,e,ne_eq,not_true_eq_false,decide_false,Bool.false_eq_true,if_false,List.length_cons] at this ⊢
   rw [this]
   omega
  ·have:=del_len key h2
   simp only [iK,List.filter_cons,e,ne_eq,not_false_eq_true,decide_true,if_true,List.length_cons] at this ⊢
   omega
theorem delI_le (key:Bs) (l:dS):(iK key l).length≤l.length:=List.length_filter_le _ _
theorem TK_snoc {y:Sb} {k:Bs}:∀ {la:List Sb} {ka:List Bs},la.length=ka.length→TK (la++[y]) (ka++[k])=TK la ka++[.T y,.K k]
 | [],[],_=>rfl
 | [],_::_,h=>by cases h
 | _::_,[],h=>by cases h
 | x::la,c::ka,h=>by
  simp only [List.cons_append,TK]
  rw [TK_snoc (by simpa using h)]
theorem cut_row {A B:List Sb} {KA KB:List Bs} {k:Bs} (h1:A.length=KA.length+1) (h2:B.length=KB.length+1) (hp:(toks (A++B) (KA++k::KB)).Pairwise RT) :
  (toks A KA).Pairwise RT∧(toks B KB).Pairwise RT∧(∀ a∈A.flatMap (·.its),iM a.1 k)∧∀ b∈B.flatMap (·.its),kle k b.1:=by
 have hb0:B≠[]:=by intro e;subst e;cases h2
 rw [toks_join h1 hb0] at hp
 obtain ⟨p1,p2,p3⟩:=List.pairwise_append.1 hp
 obtain ⟨p4,p5⟩:=List.pairwise_cons.1 p2
 refine ⟨p1,p5,λ a ha=>?_,λ b hb=>?_⟩
 ·obtain ⟨x,hx,hax⟩:=List.mem_flatMap.1 ha
  exact p3 (.T x) (T_mem h1 hx) (.K k) (by simp) a hax
 ·obtain ⟨x,hx,hbx⟩:=List.mem_flatMap.1 hb
  exact p4 (.T x) (T_mem h2 hx) b hbx
structure Pc where
 nd:Nd
 its:dS
 ps:List Nat
def onPage (p:Nat) (x:Pc):Sb:=⟨p,x.its,x.ps⟩
structure Mend (s:Pg) (h:Nat) (l:dS) (nds:List Nd) (ks:List Bs):Prop where
 ex:∃ out:List Pc,nds=out.map (·.nd)∧out.length=ks.length+1∧out.length≤2∧(∀ k∈ks,dR k=true)∧l=out.flatMap (·.its) ∧
  (∀ o∈out,Vt s h o.nd o.its o.ps∧4≤bK o.nd∧bK o.nd≤8)∧∀ ps:List Nat,ps.length=out.length→(toks (List.zipWith onPage ps out) ks).Pairwise RT
theorem mend_one {s:Pg} {h:Nat} {nd:Nd} {l:dS} {ps:List Nat} (hv:Vt s h nd l ps) (h4:4≤bK nd) (h8:bK nd≤8):Mend s h l [nd] [] :=
 ⟨[⟨nd,l,ps⟩],rfl,rfl,by simp,by simp,by simp,λ o ho=>by simp only [List.mem_singleton] at ho;subst ho;exact ⟨hv,h4,h8⟩,λ ps hps=>by
  match ps,hps with
  | [p],_=>simp [toks,KT]⟩
theorem mend_two {s:Pg} {h:Nat} {a b:Nd} {la lb:dS} {pa pb:List Nat} {k:Bs} (ha:Vt s h a la pa) (hb:Vt s h b lb pb) (ka:dR k=true) (h1:∀ x∈la,iM x.1 k) (h2:∀ x∈lb,kle k x.1)
  (a4:4≤bK a) (a8:bK a≤8) (b4:4≤bK b) (b8:bK b≤8):Mend s h (la++lb) [a,b] [k] :=
 ⟨[⟨a,la,pa⟩,⟨b,lb,pb⟩],rfl,rfl,by simp,by simpa using ka,by simp,λ o ho=>by
  simp only [List.mem_cons,List.not_mem_nil,or_false] at ho
  rcases ho with rfl|rfl
  ·exact ⟨ha,a4,a8⟩
  ·exact ⟨hb,b4,b8⟩,λ ps hps=>by
  match ps,hps with
  | [p,q],_ =>
   simp only [List.zipWith_cons_cons,List.zipWith_nil_left,toks,KT,onPage]
   have r1:RT (.T ⟨p,la,pa⟩) (.K k):=h1
   have r2:RT (.K k) (.T ⟨q,lb,pb⟩):=h2
   refine List.pairwise_cons.2 ⟨λ t ht=>?_,List.pairwise_cons.2 ⟨λ t ht=>?_,List.pairwise_cons.2 ⟨λ t ht=>(by cases ht),List.Pairwise.nil⟩⟩⟩
   ·rcases List.mem_cons.1 ht with rfl|ht
    ·exact r1
    ·rcases List.mem_cons.1 ht with rfl|ht
     ·exact RT_K r1 r2
     ·cases ht
   ·rcases List.mem_cons.1 ht with rfl|ht
    ·exact r2
    ·cases ht⟩
theorem Vt.leaf {s:Pg} {h:Nat} {nd:Nd} {l:dS} {ps:List Nat} (hv:Vt s h nd l ps):cK nd=true↔h=0:=by
 cases h with
 | zero=>obtain ⟨rfl,_⟩:=hv;simp [cK]
 | succ h =>
  obtain ⟨ls,e1,e2,e3,_⟩:=hv
  rw [dK,e2]
  cases ls with
  | nil=>cases e3
  | cons _ _=>simp
theorem last_take {α : Type} {l:List α} {d : α} (h:l≠[]):l=l.take (l.length-1)++[l.getD (l.length-1) d]:=by
 have hl:l.length-1<l.length:=by have:=List.length_pos_iff.2 h;omega
 have e:l.getD (l.length-1) d=l[l.length-1]:=by simp [List.getD_eq_getElem?_getD,hl]
 rw [e]
 conv=>lhs;rw [← List.take_append_drop (l.length-1) l]
 congr 1
 rw [List.drop_eq_getElem_cons hl]
 congr 1
 rw [List.drop_eq_nil_iff]
 omega
theorem mend_ok {s:Pg} {h:Nat} {A B:Nd} {lA lB:dS} {pA pB:List Nat} {k:Bs} (hA:Vt s h A lA pA) (hB:Vt s h B lB pB) (hk:dR k=true) (h1:∀ x∈lA,iM x.1 k) (h2:∀ x∈lB,kle k x.1) :
  (bK A+bK B≤8→4≤bK A+bK B→Mend s h (lA++lB) [lM A k B] []) ∧
  (5≤bK A→bK A≤8→3≤bK B→bK B≤7→Mend s h (lA++lB) [(fW A k B).1,(fW A k B).2.2] [(fW A k B).2.1]) ∧
  (5≤bK B→bK B≤8→3≤bK A→bK A≤7→Mend s h (lA++lB) [(iS A k B).1,(iS A k B).2.2] [(iS A k B).2.1]):=by
 cases h with
 | zero =>
  obtain ⟨rfl,rfl,a3,a4⟩:=hA
  obtain ⟨rfl,rfl,b3,b4⟩:=hB
  have hsrt:Srt (lA++lB):=List.pairwise_append.2 ⟨a3,b3,λ x hx y hy=>lD (h1 x hx) (h2 y hy)⟩
  have hall:∀ x∈lA++lB,dR x.1=true∧gH x.2=true:=λ x hx=>(List.mem_append.1 hx).elim (a4 x) (b4 x)
  have two:∀ (u v:dS) (d:Bs×Bs),u++v=lA++lB→4≤u.length→u.length≤8→4≤v.length→v.length≤8→Mend s 0 (lA++lB) [⟨u,[],[]⟩,⟨v,[],[]⟩] [(v.getD 0 d).1]:=by
   intro u v d e u4 u8 v4 v8
   rw [← e] at hsrt hall ⊢
   obtain ⟨p1,p2,p3⟩:=List.pairwise_append.1 hsrt
   cases v with
   | nil=>simp at v4
   | cons y r =>
    exact mend_two (h:=0) (pa:=[]) (pb:=[]) ⟨rfl,rfl,p1,λ x hx=>hall x (by simp [hx])⟩ ⟨rfl,rfl,p2,λ x hx=>hall x (List.mem_append_right _ hx)⟩ (hall y (by simp)).1 (λ x hx=>p3 x hx y (by simp))
     (λ x hx=>by
      rcases List.mem_cons.1 hx with rfl|hx
      ·exact kle_refl _
      ·exact lE ((List.pairwise_cons.1 p2).1 x hx)) (by simpa [bK] using u4) (by simpa [bK] using u8) (by simpa [bK] using v4) (by simpa [bK] using v8)
  simp only [bK,List.length_nil,Nat.add_zero]
  refine ⟨λ g1 g2=>?_,λ g1 g2 g3 g4=>?_,λ g1 g2 g3 g4=>?_⟩
  ·simp only [lM,cK,List.isEmpty_nil,if_true]
   exact mend_one (ps:=[]) ⟨rfl,rfl,hsrt,hall⟩ (by simp [bK];omega) (by simp [bK];omega)
  ·have hne:lA≠[]:=by intro e;subst e;simp at g1
   have e1:=last_take (d:=(([],[]):Bs×Bs)) hne
   have e2:cL lA (lA.length-1) (lA.length-1+1)=lA.take (lA.length-1):=by unfold cL;rw [List.drop_eq_nil_of_le (by omega),List.append_nil]
   simp only [fW,cK,List.isEmpty_nil,if_true,e2]
   refine two _ _ _ ?_ (by simp;omega) (by simp;omega) (by simp [dE];omega) (by simp [dE];omega)
   conv=>rhs;rw [e1]
   simp [dE]
  ·cases lB with
   | nil=>simp at g1
   | cons y r =>
    simp only [iS,cK,List.isEmpty_nil,if_true]
    refine two _ _ _ ?_ (by simp [dE];omega) (by simp [dE];omega) ?_ ?_
    ·simp [dE,cL]
    ·simp [cL] at g1 ⊢;omega
    ·simp [cL] at g2 ⊢;omega
 | succ h =>
  have fA:cK A=false:=by
   cases hh:cK A with
   | false=>rfl
   | true=>cases hA.leaf.1 hh
  obtain ⟨As,a1,a2,a3,a4,a5,a6,a7,a8⟩:=hA
  obtain ⟨Bs',b1,b2,b3,b4,b5,b6,b7,b8⟩:=hB
  have neA:∀ x∈As,x.its≠[]:=λ x hx=>by obtain ⟨n1,g1,g2,g3⟩:=a8 x hx;exact g3.ne (by omega)
  have neB:∀ x∈Bs',x.its≠[]:=λ x hx=>by obtain ⟨n1,g1,g2,g3⟩:=b8 x hx;exact g3.ne (by omega)
  have hrow:=join_ok (k:=k) a3 b3 a4 b4 neA neB (λ x hx=>h1 x (by rw [a6];exact hx)) (λ x hx=>h2 x (by rw [b6];exact hx))
  have hkeys:∀ c∈A.keys++k::B.keys,dR c=true:=λ c hc=>by
   rcases List.mem_append.1 hc with hc|hc
   ·exact a5 c hc
   ·rcases List.mem_cons.1 hc with rfl|hc
    ·exact hk
    ·exact b5 c hc
  have hsub:∀ x∈As++Bs',∃ nd',dQ s x.page=some nd'∧4≤bK nd'∧Vt s h nd' x.its x.ps:=λ x hx=>(List.mem_append.1 hx).elim (a8 x) (b8 x)
  have zA:bK A=As.length:=by simp [bK,a1,a2]
  have zB:bK B=Bs'.length:=by simp [bK,b1,b2]
  have two:∀ (U V:List Sb) (KU KV:List Bs) (c:Bs),U++V=As++Bs'→KU++c::KV=A.keys++k::B.keys→U.length=KU.length+1→V.length=KV.length+1→4≤U.length→U.length≤8→4≤V.length→V.length≤8 →
    Mend s (h+1) (lA++lB) [⟨[],U.map (·.page),KU⟩,⟨[],V.map (·.page),KV⟩] [c]:=by
   intro U V KU KV c eU eK lU lV u4 u8 v4 v8
   rw [← eU,← eK] at hrow
   rw [← eK] at hkeys
   rw [← eU] at hsub
   obtain ⟨r1,r2,r3,r4⟩:=cut_row lU lV hrow
   have e:lA++lB=U.flatMap (·.its)++V.flatMap (·.its):=by rw [a6,b6,← List.flatMap_append,← eU,List.flatMap_append]
   rw [e]
   exact mend_two (h:=h+1) (pa:=pgs U) (pb:=pgs V) ⟨U,rfl,rfl,lU,r1,λ c hc=>hkeys c (by simp [hc]),rfl,rfl,λ x hx=>hsub x (by simp [hx])⟩
    ⟨V,rfl,rfl,lV,r2,λ c hc=>hkeys c (by simp [hc]),rfl,rfl,λ x hx=>hsub x (by simp [hx])⟩ (hkeys c (by simp)) r3 r4 (by simpa [bK] using u4) (by simpa [bK] using u8) (by simpa [bK] using v4) (by simpa [bK] using v8)
  refine ⟨λ g1 g2=>?_,λ g1 g2 g3 g4=>?_,λ g1 g2 g3 g4=>?_⟩
  ·simp only [lM,fA,Bool.false_eq_true,if_false]
   have ek:A.keys++[k]++B.keys=A.keys++k::B.keys:=by simp
   rw [ek]
   refine mend_one (ps:=pgs (As++Bs')) ⟨As++Bs',rfl,by rw [a2,b2,List.map_append],by simp;omega,hrow,hkeys,by rw [a6,b6,List.flatMap_append],rfl,hsub⟩ ?_ ?_
   ·simp [bK,a2,b2];omega
   ·simp [bK,a2,b2];omega
  ·have hAne:As≠[]:=by intro e;rw [e] at a3;cases a3
   have hKne:A.keys≠[]:=by intro e;rw [e] at a3;simp at a3;omega
   have e1:=last_take (d:=(⟨0,[],[]⟩:Sb)) hAne
   have e2:=last_take (d:=([]:Bs)) hKne
   have ekl:A.kids.length=As.length:=by rw [a2,List.length_map]
   have eyl:A.keys.length=As.length-1:=by omega
   have e3:cL A.kids (A.kids.length-1) (A.kids.length-1+1)=(As.take (As.length-1)).map (·.page):=by
    unfold cL;rw [List.drop_eq_nil_of_le (by omega),List.append_nil,ekl,a2,List.map_take]
   have e4:cL A.keys (A.kids.length-1-1) (A.kids.length-1)=A.keys.take (A.keys.length-1):=by
    unfold cL;rw [List.drop_eq_nil_of_le (by omega),List.append_nil];congr 1;omega
   have e5:dE B.kids 0 [A.kids.getD (A.kids.length-1) 0]=((As.getD (As.length-1) ⟨0,[],[]⟩)::Bs').map (·.page):=by
    have hlt:As.length-1<As.length:=by omega
    simp [dE,b2,a2,List.getD_eq_getElem?_getD,hlt]
   have e6:dE B.keys 0 [k]=k::B.keys:=by simp [dE]
   have e7:A.keys.getD (A.kids.length-1-1) []=A.keys.getD (A.keys.length-1) []:=by congr 1;omega
   simp only [fW,fA,Bool.false_eq_true,if_false]
   rw [e3,e4,e5,e6,e7,a1,b1]
   refine two _ _ _ _ _ ?_ ?_ ?_ ?_ ?_ ?_ ?_ ?_
   ·conv=>rhs;rw [e1]
    simp
   ·conv=>rhs;rw [e2]
    simp
   ·simp;omega
   ·simp;omega
   ·simp;omega
   ·simp;omega
   ·simp;omega
   ·simp;omega
  ·cases Bs' with
   | nil=>cases b3
   | cons z zs =>
    have hKne:B.keys≠[]:=by intro e;rw [e] at b3;simp at b3;rw [b3] at zB;simp at zB;omega
    obtain ⟨c,cs,ec⟩:∃ c cs,B.keys=c::cs:=by
     cases hd:B.keys with
     | nil=>exact absurd hd hKne
     | cons a b=>exact ⟨a,b,rfl⟩
    have e5:dE A.kids A.kids.length [B.kids.getD 0 0]=(As++[z]).map (·.page):=by rw [List.map_append,← a2];simp [dE,b2]
    have e6:dE A.keys A.keys.length [k]=A.keys++[k]:=by simp [dE]
    have e7:cL B.kids 0 1=zs.map (·.page):=by simp [cL,b2]
    have e8:cL B.keys 0 1=cs:=by simp [cL,ec]
    have e9:B.keys.getD 0 []=c:=by simp [ec]
    simp only [iS,fA,Bool.false_eq_true,if_false]
    rw [e5,e6,e7,e8,e9,a1,b1]
    rw [ec] at b3
    simp only [List.length_cons] at b3 zB
    refine two _ _ _ _ _ ?_ ?_ ?_ ?_ ?_ ?_ ?_ ?_
    ·simp
    ·rw [ec];simp
    ·simp;omega
    ·omega
    ·simp;omega
    ·simp;omega
    ·omega
    ·omega
end Go.Proofs.YtfpadnmdafiddaaGreatDoor
namespace Go.Proofs.YtfpadnmdafiddaaGreatDoor
theorem Vt.mendOk {s:Pg} (hs:PgOk s) {h:Nat} {nd:Nd} {l:dS} {ps:List Nat} (hv:Vt s h nd l ps) (h4:4≤bK nd) (h8:bK nd≤8):cH nd=true:=hv.ok hs (.inl (by omega)) h8
theorem writeAll_ok {h:Nat}:∀ {out:List Pc} {s:Pg},PgOk s→out.length≤cP s→(∀ o∈out,Vt s h o.nd o.its o.ps∧4≤bK o.nd∧bK o.nd≤8) →
  ∃ pages s',eI s (out.map (·.nd))=some (pages,s')∧pages.length=out.length∧Ext s s'∧PgOk s'∧cP s'+out.length=cP s∧(List.zipWith onPage pages out).map (·.page)=pages ∧
   (List.zipWith onPage pages out).flatMap (·.its)=out.flatMap (·.its)∧∀ x∈List.zipWith onPage pages out,∃ nd',dQ s' x.page=some nd'∧4≤bK nd'∧Vt s' h nd' x.its x.ps
 | [],s,hs,_,_=>⟨[],s,rfl,rfl,Ext.refl s,hs,rfl,rfl,rfl,λ x hx=>by cases hx⟩
 | o::out,s,hs,hsp,hv=>by
  obtain ⟨v1,v2,v3⟩:=hv o (by simp)
  simp only [List.length_cons] at hsp
  obtain ⟨p,s1,w1,w2⟩:=eY hs (by omega) (v1.mendOk hs v2 v3)
  have:=w2.spare
  obtain ⟨pages,s2,q1,q2,q3,q4,q5,q6,q7,q8⟩:=writeAll_ok (h:=h) (out:=out) (s:=s1) w2.ok (by omega) λ o2 h2=>by
   obtain ⟨u1,u2,u3⟩:=hv o2 (List.mem_cons_of_mem _ h2)
   exact ⟨u1.ext w2.ext,u2,u3⟩
  refine ⟨p::pages,s2,?_,by simp [q2],w2.ext.trans q3,q4,by simp;omega,?_,?_,?_⟩
  ·simp only [List.map_cons,eI,w1,q1]
  ·simp only [List.zipWith_cons_cons,List.map_cons,q6,onPage]
  ·simp only [List.zipWith_cons_cons,List.flatMap_cons,q7,onPage]
  ·intro x hx
   simp only [List.zipWith_cons_cons,List.mem_cons] at hx
   rcases hx with rfl|hx
   ·exact ⟨o.nd,q3.node w2.node,v2,(v1.ext w2.ext).ext q3⟩
   ·exact q8 x hx
theorem mid_two {α : Type} {la lb us:List α} {x y : α}:dE (cL (la++x::y::lb) la.length (la.length+2)) la.length us=la++us++lb:=by
 have e1:(la++x::y::lb).take la.length=la:=List.take_left' rfl
 have e2:(la++x::y::lb).drop (la.length+2)=lb:=by
  rw [← List.drop_drop,List.drop_left' rfl];rfl
 unfold dE cL
 rw [e1,e2,List.take_left' rfl,List.drop_left' rfl]
theorem splice_two {s:Pg} {h:Nat} {nd:Nd} {pa pb us:List Sb} {y z:Sb} {ka kb uk:List Bs} {k:Bs} {lA lB:dS} (e1:nd.items=[]) (e2:nd.kids=(pa++y::z::pb).map (·.page)) (e3:nd.keys=ka++k::kb) (l1:pa.length=ka.length) (l2:kb.length=pb.length)
  (hp:(TK pa ka++[Tok.T y,Tok.K k,Tok.T z]++KT kb pb).Pairwise RT) (hk:∀ c∈nd.keys,dR c=true) (hsub:∀ x∈pa++pb,∃ nd',dQ s x.page=some nd'∧4≤bK nd'∧Vt s h nd' x.its x.ps)
  (u1:us.length=uk.length+1) (u2:(toks us uk).Pairwise RT) (u3:∀ c∈uk,dR c=true) (u4:us.flatMap (·.its)=lA++lB) (u5:∀ x∈us,∃ nd',dQ s x.page=some nd'∧4≤bK nd'∧Vt s h nd' x.its x.ps)
  (hA:∀ a∈lA,a∈y.its) (hB:∀ a∈lB,a∈z.its) :
  Vt s (h+1) (mB nd pa.length (us.map (·.page)) uk) (pa.flatMap (·.its)++(lA++lB)++pb.flatMap (·.its)) (pgs (pa++us++pb))∧bK (mB nd pa.length (us.map (·.page)) uk)=pa.length+us.length+pb.length:=by
 have m1:dE (cL nd.kids pa.length (pa.length+2)) pa.length (us.map (·.page))=(pa++us++pb).map (·.page):=by
  rw [e2]
  simp only [List.map_append,List.map_cons]
  have:=mid_two (la:=pa.map (·.page)) (lb:=pb.map (·.page)) (us:=us.map (·.page)) (x:=y.page) (y:=z.page)
  rw [List.length_map] at this
  exact this
 have m2:dE (cL nd.keys pa.length (pa.length+1)) pa.length uk=ka++uk++kb:=by
  rw [e3,l1]
  exact mid_put
 have hN:mB nd pa.length (us.map (·.page)) uk=⟨[],(pa++us++pb).map (·.page),ka++uk++kb⟩:=by
  unfold mB
  rw [m1,m2]
  cases nd
  simp only at e1 ⊢
  rw [e1]
 rw [hN]
 have hne:∀ x∈us,x.its≠[]:=λ x hx=>by
  obtain ⟨n1,g1,g2,g3⟩:=u5 x hx
  exact g3.ne (by omega)
 refine ⟨⟨pa++us++pb,rfl,rfl,by simp;omega,?_,?_,by rw [← u4];simp,rfl,?_⟩,by simp [bK];omega⟩
 ·rw [toks_mid l1 u1]
  refine splice_ok hp u1 u2 hne (λ t ht a ha=>?_) (λ t ht a ha=>?_)
  ·have hc:=(List.pairwise_append.1 (List.pairwise_append.1 hp).1).2.2 t ht
   rw [u4] at ha
   rcases List.mem_append.1 ha with ha|ha
   ·exact RT_T.1 (hc (.T y) (by simp)) a (hA a ha)
   ·exact RT_T.1 (hc (.T z) (by simp)) a (hB a ha)
  ·have hc:=(List.pairwise_append.1 hp).2.2
   rw [u4] at ha
   rcases List.mem_append.1 ha with ha|ha
   ·exact T_RT.1 (hc (.T y) (by simp) t ht) a (hA a ha)
   ·exact T_RT.1 (hc (.T z) (by simp) t ht) a (hB a ha)
 ·intro c hc
  simp only [List.mem_append] at hc
  rcases hc with (hc|hc)|hc
  ·exact hk c (by rw [e3];simp [hc])
  ·exact u3 c hc
  ·exact hk c (by rw [e3];simp [hc])
 ·intro x hx
  simp only [List.mem_append] at hx
  rcases hx with (hx|hx)|hx
  ·exact hsub x (by simp [hx])
  ·exact u5 x hx
  ·exact hsub x (by simp [hx])
theorem mem_delI {key:Bs} {l:dS} {x:Bs×Bs} (h:x∈iK key l):x∈l:=(List.mem_filter.1 h).1
theorem node_le {s:Pg} {n:Nat} {nd:Nd} (h:dQ s n=some nd):bK nd≤8:=by
 have hok:=iO h
 unfold cH at hok
 split at hok
 ·rename_i hl
  obtain ⟨_,h8,_⟩:=dL hok
  rw [dK] at hl
  simp [bK,hl];omega
 ·obtain ⟨h1,_,w8,_⟩:=cU hok
  simp [bK,h1];omega
theorem del_up (key:Bs):∀ (h:Nat) {s:Pg} {n f:Nat} {nd:Nd} {l:dS} {ps:List Nat},PgOk s→dQ s n=some nd→Vt s h nd l ps→h<f→2*(h+1)≤cP s→(∃ x∈l,x.1=key) →
  ∃ fr,hZ s key f n=some (fr,true)∧fr.length=h+1∧∃ low s' ps',mY fr s=some (low,s')∧Ext s s'∧PgOk s'∧Vt s' h low (iK key l) ps'∧bK nd≤bK low+1∧bK low≤bK nd∧cP s≤cP s'+2*h∧cP s'≤cP s
 | 0,s,n,f,nd,l,ps,hs,hn,hv,hf,hsp,hkey=>by
  obtain ⟨rfl,rfl,h3,h4⟩:=hv
  obtain ⟨f,rfl⟩:∃ g,f=g+1:=⟨f-1,by omega⟩
  have ht:=(mV key h3).2 hkey
  refine ⟨[(⟨l,[],[]⟩,fX l key)],by simp only [hZ,hn];rw [if_pos (by rfl),ht],rfl,⟨iK key l,[],[]⟩,s,[],?_,Ext.refl s,hs,⟨rfl,rfl,delI_srt h3,λ x hx=>h4 x (mem_delI hx)⟩,?_,?_,by omega,by omega⟩
  ·simp only [mY]
   rw [if_pos (by rfl),del_eq key h3 ht]
  ·have:=del_len key h3
   simpa [bK] using this
  ·have:=delI_le key l
   simpa [bK] using this
 | h+1,s,n,f,nd,l,ps,hs,hn,hv,hf,hsp,hkey=>by
  have hok:=iO hn
  obtain ⟨ls,e1,e2,e3,e4,e5,e6,e7,e8⟩:=hv
  obtain ⟨f,rfl⟩:∃ g,f=g+1:=⟨f-1,by omega⟩
  have hlf:cK nd=false:=by
   cases hh:cK nd with
   | false=>rfl
   | true =>
    rw [dK.1 hh] at e2
    cases ls with
    | nil=>cases e3
    | cons _ _=>cases e2
  unfold cH at hok
  rw [if_neg (by rw [hlf];simp)] at hok
  obtain ⟨_,w2,w8,w4,_,_⟩:=cU hok
  obtain ⟨la,x,lb,ka,kb,a1,a2,a3,a4,a5,a6,a7,a8⟩:=kid_split e3 e4 key
  obtain ⟨ndx,x1,x2,x3⟩:=e8 x (by rw [a1];simp)
  have hlt:=TK_its a4.symm a6
  have hgt:=KT_its a5 a7
  have hflat:l=la.flatMap (·.its)++(x.its++lb.flatMap (·.its)):=by rw [e6,a1];simp
  have hkx:∃ y∈x.its,y.1=key:=by
   obtain ⟨y,hy,e⟩:=hkey
   rw [hflat] at hy
   rcases List.mem_append.1 hy with hy|hy
   ·exact absurd (hlt y hy) (by rw [e];exact dF _)
   ·rcases List.mem_append.1 hy with hy|hy
    ·exact ⟨y,hy,e⟩
    ·exact absurd (hgt y hy) (by rw [e];exact dF _)
  obtain ⟨fr,i1,i2,low,s1,ps1,i4,i5,i6,i7,i8,i9,i10,i11⟩:=del_up key h (s:=s) (n:=x.page) (f:=f) hs x1 x3 (by omega) (by omega) hkx
  have hkid:nd.kids[iR nd.keys key]? = some x.page:=by
   rw [e2,a1,← a3]
   simp
  have hdel:iK key l=la.flatMap (·.its)++iK key x.its++lb.flatMap (·.its):=by
   rw [hflat,delI_append,delI_append,delI_same (a:=la.flatMap (·.its)) (λ y hy e=>dF key (by have:=hlt y hy;rwa [e] at this)),delI_same (a:=lb.flatMap (·.its)) (λ y hy e=>dF key (by have:=hgt y hy;rwa [e] at this))]
   simp
  have old:∀ y∈ls,∃ nd',dQ s1 y.page=some nd'∧4≤bK nd'∧Vt s1 h nd' y.its y.ps:=λ y hy=>by
   obtain ⟨n1,g1,g2,g3⟩:=e8 y hy
   exact ⟨n1,i5.node g1,g2,g3.ext i5⟩
  have hsnd:bK nd=nd.kids.length:=by simp [bK,e1]
  have hkz:nd.kids.length=ls.length:=by rw [e2,List.length_map]
  have hlsz:ls.length=la.length+1+lb.length:=by rw [a1];simp;omega
  have hx8:=node_le x1
  refine ⟨(nd,iR nd.keys key)::fr,?_,by simp [i2],?_⟩
  ·simp only [hZ,hn,hlf,Bool.false_eq_true,if_false,hkid,i1]
  ·have hunf:mY ((nd,iR nd.keys key)::fr) s=lowerP s1 nd la.length low:=by
    simp only [mY,i4,hlf,Bool.false_eq_true,if_false,← a3]
   rw [hunf]
   unfold lowerP
   by_cases h4:bK low<4
   ·rw [if_pos h4]
    have key2:∀ (pa pb:List Sb) (y z:Sb) (k:Bs) (ka' kb':List Bs) (A B sib:Nd) (lA lB:dS) (pA pB:List Nat),ls=pa++y::z::pb→nd.keys=ka'++k::kb'→pa.length=ka'.length→kb'.length=pb.length →
      (TK pa ka'++[Tok.T y,Tok.K k,Tok.T z]++KT kb' pb).Pairwise RT→Vt s1 h A lA pA→Vt s1 h B lB pB→(∀ a∈lA,a∈y.its)→(∀ a∈lB,a∈z.its)→la.length-1=pa.length→nd.kids[if la.length=0 then 1 else la.length-1]? = some (if la.length=0 then z.page else y.page) →
      dQ s1 (if la.length=0 then z.page else y.page)=some sib→A=(if la.length=0 then low else sib)→B=(if la.length=0 then sib else low)→4≤bK sib→bK sib≤8→iK key l=pa.flatMap (·.its)++(lA++lB)++pb.flatMap (·.its) →
      ∃ low' s' ps',repairP s1 nd la.length low=some (low',s')∧Ext s s'∧PgOk s'∧Vt s' (h+1) low' (iK key l) ps'∧bK nd≤bK low'+1∧bK low'≤bK nd∧cP s≤cP s'+2*(h+1)∧cP s'≤cP s:=by
     intro pa pb y z k ka' kb' A B sib lA lB pA pB t1 t2 t3 t4 t5 t6 t7 t8 t9 t10 t11 t12 t13 t14 t15 t16 t17
     have hkk:nd.keys.getD (la.length-1) []=k:=by rw [t10,t2,t3];simp
     have r1:=(List.pairwise_append.1 (List.pairwise_append.1 t5).1).2.1
     have ryk:RT (.T y) (.K k):=(List.pairwise_cons.1 r1).1 _ (by simp)
     have rkz:RT (.K k) (.T z):=(List.pairwise_cons.1 (List.pairwise_cons.1 r1).2).1 _ (by simp)
     obtain ⟨g1,g2,g3⟩:=mend_ok t6 t7 (e5 k (by rw [t2];simp)) (λ a ha=>ryk a (t8 a ha)) (λ a ha=>rkz a (t9 a ha))
     have hleaf:(cK sib != cK low)=false:=by
      have q1:=t6.leaf
      have q2:=t7.leaf
      have q3:cK A=cK B:=by
       cases hA:cK A<;>cases hB:cK B<;>simp_all
      rw [t13,t14] at q3
      by_cases h0:la.length=0
      ·rw [if_pos h0,if_pos h0] at q3;rw [q3];simp
      ·rw [if_neg h0,if_neg h0] at q3;rw [q3];simp
     have hmend:Mend s1 h (lA++lB) (gX sib low la.length (nd.keys.getD (la.length-1) [])).1 (gX sib low la.length (nd.keys.getD (la.length-1) [])).2:=by
      rw [hkk]
      unfold gX
      by_cases h0:la.length=0
      ·rw [if_pos h0] at t13 t14
       simp only [if_pos h0]
       rw [← t14] at t15 t16 ⊢
       rw [← t13] at h4 i8 i9 ⊢
       by_cases h5:bK B≤4
       ·rw [if_pos h5];exact g1 (by omega) (by omega)
       ·rw [if_neg h5,if_neg (by omega)];exact g3 (by omega) (by omega) (by omega) (by omega)
      ·rw [if_neg h0] at t13 t14
       simp only [if_neg h0]
       rw [← t13] at t15 t16 ⊢
       rw [← t14] at h4 i8 i9 ⊢
       by_cases h5:bK A≤4
       ·rw [if_pos h5];exact g1 (by omega) (by omega)
       ·rw [if_neg h5,if_pos (by omega)];exact g2 (by omega) (by omega) (by omega) (by omega)
     obtain ⟨out,o1,o2,o3,o4,o5,o6,o7⟩:=hmend.ex
     obtain ⟨pages,s2,q1,q2,q3,q4,q5,q6,q7,q8⟩:=writeAll_ok i6 (by omega) o6
     obtain ⟨v1,v2⟩:=splice_two (s:=s2) (h:=h) (nd:=nd) (pa:=pa) (pb:=pb) (us:=List.zipWith onPage pages out) (uk:=(gX sib low la.length (nd.keys.getD (la.length-1) [])).2) (lA:=lA) (lB:=lB) e1 (by rw [e2,t1]) t2 t3 t4 t5 e5
      (λ x hx=>by
       obtain ⟨n1,u1,u2,u3⟩:=old x (by rw [t1];rcases List.mem_append.1 hx with hx|hx<;>simp [hx])
       exact ⟨n1,q3.node u1,u2,u3.ext q3⟩)
      (by rw [List.length_zipWith,q2,Nat.min_self];exact o2) (o7 pages q2) o4 (by rw [q7,← o5]) q8 t8 t9
     have hus:(List.zipWith onPage pages out).length=out.length:=by rw [List.length_zipWith,q2,Nat.min_self]
     rw [q6] at v1 v2
     have hlen:ls.length=pa.length+2+pb.length:=by rw [t1];simp;omega
     refine ⟨_,s2,_,?_,i5.trans q3,q4,by rw [t17];exact v1,by omega,by omega,by omega,by omega⟩
     unfold repairP
     simp only [t11]
     by_cases h0:la.length=0
     ·simp only [if_pos h0] at t12 t11 ⊢
      simp only [t12,hleaf,Bool.false_eq_true,if_false]
      rw [o1,q1]
      rw [t10]
     ·simp only [if_neg h0] at t12 t11 ⊢
      simp only [t12,hleaf,Bool.false_eq_true,if_false]
      rw [o1,q1]
      rw [t10]
    rcases List.eq_nil_or_concat la with hla|⟨pa,y,hla⟩
    ·subst hla
     have hka:ka=[]:=List.eq_nil_of_length_eq_zero (by simpa using a4)
     subst hka
     cases lb with
     | nil=>simp at hlsz;omega
     | cons z pb =>
      cases kb with
      | nil=>cases a5
      | cons k kb' =>
       obtain ⟨ndz,z1,z2,z3⟩:=old z (by rw [a1];simp)
       have z8:=node_le z1
       refine key2 [] pb x z k [] kb' low ndz ndz (iK key x.its) z.its ps1 z.ps (by rw [a1,List.nil_append]) (by rw [a2,List.nil_append]) rfl (by simpa using a5) (by simpa [TK,KT] using a8) i7 z3 (λ a ha=>mem_delI ha) (λ a ha=>ha) rfl ?_ z1 rfl rfl z2 z8 ?_
       ·rw [if_pos (by rfl),if_pos (by rfl),e2,a1];rfl
       ·rw [hdel];simp
    ·rw [List.concat_eq_append] at hla
     subst hla
     rcases List.eq_nil_or_concat ka with hka|⟨ka',k,hka⟩
     ·subst hka;simp at a4
     ·rw [List.concat_eq_append] at hka
      subst hka
      have hl:pa.length=ka'.length:=by simp at a4;omega
      have hle:(pa++[y]).length=pa.length+1:=by simp
      obtain ⟨ndy,y1,y2,y3⟩:=old y (by rw [a1];simp)
      have y8:=node_le y1
      refine key2 pa lb y x k ka' kb ndy low ndy y.its (iK key x.its) y.ps ps1 (by rw [a1];simp) (by rw [a2];simp) hl a5 (by rw [TK_snoc hl] at a8;simpa using a8) y3 i7 (λ a ha=>ha) (λ a ha=>mem_delI ha) (by omega) ?_ ?_ ?_ ?_ y2 y8 ?_
      ·rw [if_neg (by omega),if_neg (by omega),hle,e2,a1];simp
      ·rw [if_neg (by omega)];exact y1
      ·rw [if_neg (by omega)]
      ·rw [if_neg (by omega)]
      ·rw [hdel];simp
   ·rw [if_neg h4]
    obtain ⟨p,s2,g1,g2⟩:=eY i6 (by omega) (i7.mendOk i6 (by omega) (by omega))
    have:=g2.spare
    rw [g1]
    have hne:∀ y∈[(⟨p,iK key x.its,ps1⟩:Sb)],y.its≠[]:=λ y hy=>by
     simp only [List.mem_singleton] at hy
     subst hy
     exact i7.ne (by omega)
    have m1:dE (cL nd.kids la.length (la.length+1)) la.length [p]=(la++[(⟨p,iK key x.its,ps1⟩:Sb)]++lb).map (·.page):=by
     rw [e2,a1]
     simp only [List.map_append,List.map_cons,List.map_nil]
     have:=mid_put (la:=la.map (·.page)) (lb:=lb.map (·.page)) (us:=[p]) (x:=x.page)
     rw [List.length_map] at this
     exact this
    refine ⟨_,s2,pgs (la++[⟨p,iK key x.its,ps1⟩]++lb),rfl,i5.trans g2.ext,g2.ok,⟨la++[⟨p,iK key x.its,ps1⟩]++lb,e1,m1,by simp;omega,?_,e5,by rw [hdel];simp,rfl,?_⟩,?_,?_,by omega,by omega⟩
    ·have:=toks_mid (la:=la) (us:=[⟨p,iK key x.its,ps1⟩]) (lb:=lb) (ka:=ka) (uk:=[]) (kb:=kb) a4.symm rfl
     rw [List.append_nil,← a2] at this
     simp only
     rw [this]
     refine splice_ok a8 rfl (by simp [toks,KT]) hne (λ t ht a ha=>?_) (λ t ht a ha=>?_)
     ·simp only [List.flatMap_cons,List.flatMap_nil,List.append_nil] at ha
      have:=(List.pairwise_append.1 (List.pairwise_append.1 a8).1).2.2 t ht (.T x) (by simp)
      exact RT_T.1 this a (mem_delI ha)
     ·simp only [List.flatMap_cons,List.flatMap_nil,List.append_nil] at ha
      have:=(List.pairwise_append.1 a8).2.2 (.T x) (by simp) t ht
      exact T_RT.1 this a (mem_delI ha)
    ·intro y hy
     simp only [List.mem_append,List.mem_singleton] at hy
     rcases hy with (hy|rfl)|hy
     ·obtain ⟨n1,u1,u2,u3⟩:=old y (by rw [a1];simp [hy])
      exact ⟨n1,g2.ext.node u1,u2,u3.ext g2.ext⟩
     ·exact ⟨low,g2.node,by omega,i7.ext g2.ext⟩
     ·obtain ⟨n1,u1,u2,u3⟩:=old y (by rw [a1];simp [hy])
      exact ⟨n1,g2.ext.node u1,u2,u3.ext g2.ext⟩
    ·simp only [bK,m1,e1]
     simp
     omega
    ·simp only [bK,m1,e1]
     simp
     omega
end Go.Proofs.YtfpadnmdafiddaaGreatDoor
namespace Go.V
theorem upB_self (dn:Nat→Bool) (i:Nat):upB dn i i=true:=by unfold upB;rw [Nat.beq_refl];rfl
theorem upV_self (vs:Nat→Value) (i:Nat) (v:Value):upV vs i v i=v:=by unfold upV;rw [Nat.beq_refl];rfl
theorem beq_ne {i j:Nat} (h:j≠i):Nat.beq j i=false:=by
 cases hb:Nat.beq j i with
 | false=>rfl
 | true=>exact absurd (Nat.eq_of_beq_eq_true hb) h
theorem eJ {dn:Nat→Bool} {i j:Nat} (h:j≠i):upB dn i j=dn j:=by unfold upB;rw [beq_ne h];rfl
theorem gW {vs:Nat→Value} {i j:Nat} {v:Value} (h:j≠i):upV vs i v j=vs j:=by unfold upV;rw [beq_ne h];rfl
end Go.V
namespace Go.Proofs.YtfpadnmdafiddaaGreatDoor
open Go Go.RowKit Go.V
theorem repairP_parts {s s':Pg} {n low r:Nd} {i:Nat} (h:repairP s n i low=some (r,s')):∃ k sib kids,n.kids[if i=0 then 1 else i-1]? = some k∧dQ s k=some sib∧cK sib=cK low ∧
  eI s (gX sib low i (n.keys.getD (i-1) [])).1=some (kids,s')∧r=mB n (i-1) kids (gX sib low i (n.keys.getD (i-1) [])).2:=by
 unfold repairP at h
 simp only at h
 split at h
 ·cases h
 ·rename_i k hk
  split at h
  ·cases h
  ·rename_i sib hs
   split at h
   ·cases h
   ·rename_i hl
    split at h
    ·cases h
    ·rename_i kids s1 hw
     simp only [Option.some.injEq,Prod.mk.injEq] at h
     obtain ⟨rfl,rfl⟩:=h
     exact ⟨k,sib,kids,hk,hs,by simpa using hl,hw,rfl⟩
def repC (s y x:NV) (b5 i:Nat) (kv:Value):Nat→Value
 | 0=>.agg #[.slice s.a1 s.n1 s.c1,.slice s.a2 s.n2 s.c2,.slice s.a3 s.n3 s.c3]
 | 1=>.agg #[.slice y.a1 y.n1 y.c1,.slice y.a2 y.n2 y.c2,.slice y.a3 y.n3 y.c3]
 | 2=>.pointer (some ⟨b5,2,none⟩)
 | 3=>.slice x.a3 x.n3 x.c3
 | 4=>.int .i64 ((i-1:Nat):Int)
 | 5=>.pointer (some (at' x.a3 ((i-1)*1)))
 | _=>kv
structure RepJ (G:Nat→Prop) (w w5:World) (s y x:NV) (b5 b7 b8 b12 i:Nat) (kv:Value) (dn:Nat→Bool) (vs:Nat→Value) (w1:World):Prop where
 ic:Carry G w5 G w1
 i12:Blk w1 b12 79 s.cs
 i7:Blk w1 b7 79 y.cs
 i5:Blk w1 b5 79 x.cs
 i8:Blk w1 b8 79 nil3
 ig:Grow w w1
 iv:∀ j,j<7→dn j=true→vs j=repC s y x b5 i kv j
 i77:dn 7=true→∃ b,vs 7=.pointer (some ⟨b,0,none⟩)∧w5.heap.size≤b∧b<w1.heap.size∧Blk w1 b 79 (if dn 9 then s.cs else nil3)
 i88:dn 8=true→∃ b,vs 8=.pointer (some ⟨b,0,none⟩)∧w5.heap.size≤b∧b<w1.heap.size∧Blk w1 b 79 (if dn 10 then y.cs else nil3)
 ine:dn 7=true→dn 8=true→vs 7≠vs 8
 d9:dn 9=true→dn 7=true
 d10:dn 10=true→dn 8=true
theorem RepJ.plain {G:Nat→Prop} {w w5:World} {s y x:NV} {b5 b7 b8 b12 i:Nat} {kv:Value} {dn:Nat→Bool} {vs:Nat→Value} {w1:World} (h:RepJ G w w5 s y x b5 b7 b8 b12 i kv dn vs w1) (j:Nat) (hj:j<7) {v:Value} (hv:v=repC s y x b5 i kv j) :
  RepJ G w w5 s y x b5 b7 b8 b12 i kv (upB dn j) (upV vs j v) w1:=by
 have u:∀ m,7≤m→upB dn j m=dn m:=λ m hm=>eJ (by omega)
 have uv:∀ m,7≤m→upV vs j v m=vs m:=λ m hm=>gW (by omega)
 refine ⟨h.ic,h.i12,h.i7,h.i5,h.i8,h.ig,λ m hm hd=>?_,?_,?_,?_,?_,?_⟩
 ·by_cases hmj:m=j
  ·subst hmj;rw [upV_self];exact hv
  ·rw [gW hmj];rw [eJ hmj] at hd;exact h.iv m hm hd
 ·rw [u 7 (by omega),uv 7 (by omega),u 9 (by omega)];exact h.i77
 ·rw [u 8 (by omega),uv 8 (by omega),u 10 (by omega)];exact h.i88
 ·rw [u 7 (by omega),uv 7 (by omega),u 8 (by omega),uv 8 (by omega)];exact h.ine
 ·rw [u 7 (by omega),u 9 (by omega)];exact h.d9
 ·rw [u 8 (by omega),u 10 (by omega)];exact h.d10
theorem repair_c {w:World} {L:PL} {g g':Pg} (h:PgAt w L g) (ht:TabAt w) (h0:¬ L.S 0) (F:Nat→Prop) (hFS:∀ k,F k→¬ L.S k) (hFw:∀ k,w.heap.size≤k→F k) (x y:NV) (nd low r:Nd) (i:Nat) (hx:NdAt F w x nd) (hy:NdAt F w y low) (hbn:NdB nd) (hbl:NdB low)
  (hok:cH nd=true) (hnl:cK nd=false) (hi:i<nd.kids.length) (hl8:low.items.length≤1000∧low.kids.length≤1000∧low.keys.length≤1000) (hr:repairP g nd i low=some (r,g')) :
  Calls Tryz.prog 153 #[.pointer (some ⟨L.p,0,none⟩),x.val,.int .i64 (i:Int),y.val] w (Ret λ v w'=>(∃ z:NV,v=.tuple #[z.val,.int .i64 0]∧NdAt F w' z r)∧PgAt w' L g'∧ButS L.S w w'):=by
 obtain ⟨kp,sib,kids,hkp,hsib,hll,hwa,hre⟩:=repairP_parts hr
 obtain ⟨nx1,nx2,nx3⟩:=hx.nums
 obtain ⟨ny1,ny2,ny3⟩:=hy.nums
 have hok':=hok
 unfold cH at hok'
 rw [if_neg (by rw [hnl];simp)] at hok'
 obtain ⟨hoi,ho2,ho8,hol,_,_⟩:=cU hok'
 have hSl:∀ k,w.heap.size≤k→¬ L.S k:=λ k hk=>by have:=h.lts;unfold PL.S;omega
 obtain ⟨o,ho⟩:∃ o,o=if i=0 then 1 else i-1:=⟨_,rfl⟩
 rw [← ho] at hkp
 have hon:o<nd.kids.length:=(List.getElem?_eq_some_iff.1 hkp).1
 refine V.calls (args:=[_,_,_,_]) Tryz.func153 rfl Tryz.ntmps153 rfl rfl ?_
 refine fJ 4 (λ e w0=>∃ b5 b7 b8,Sub [(11,.int .i64 (o:Int)),(10,.int .i64 ((i-1:Nat):Int)),(8,.pointer (some ⟨b8,0,none⟩)),(7,.pointer (some ⟨b7,0,none⟩)),(5,.pointer (some ⟨b5,0,none⟩)),(2,.int .i64 (i:Int)),(0,.pointer (some ⟨L.p,0,none⟩))] e ∧
  b5=w.heap.size∧b7=b5+1∧b8=b7+1∧w0.heap.size=b8+1∧Blk w0 b5 79 x.cs∧Blk w0 b7 79 y.cs∧Blk w0 b8 79 nil3∧Grow w w0) ?_ ?_
 rotate_left
 ·repeat (first|(refine cJ ?_;refine iT rfl rfl (by omega) (by omega) rfl ?_)|(refine TL.maxV (r:=((i-1:Nat):Int)) rfl rfl (by split<;>omega) rfl ?_)|(refine aB ?_;refine TL.pure rfl rfl ?_)|(refine aD ?_;refine TL.pure rfl rfl ?_)|refine TL.nil ?_|refine aA ?_|refine aJ ?_|refine aC ?_|(refine aH ?_;refine TL.pure rfl rfl ?_)|(refine bW ?_;(refine dJ rfl rfl ?_;intro bk w' hg hbk hsz hsz'))|(refine bD ?_;(refine TL.alloc rfl rfl ?_;intro bk w' hg hbk hsz hsz'))|refine bH ?_|refine cQ ?_)
  rename_i b5 w1 g1 k1 p1 p1' b7 w2 g2 k2 p2 p2'
  by_cases hi0:i=0
  ·rw [if_pos hi0] at ho
   repeat (first|(refine aD ?_;refine TL.pure rfl rfl ?_)|refine TL.nil ?_|refine aC ?_|refine eT rfl yD ?_|refine bH ?_|refine cR ?_)
   exact ⟨b5,b7,bk,⟨by rw [ho];rfl,rfl,rfl,rfl,rfl,rfl,rfl,trivial⟩,by omega,by omega,by omega,by omega,k1.grow (g2.trans hg),k2.grow hg,hbk,g1.trans (g2.trans hg)⟩
  ·rw [if_neg hi0] at ho
   repeat (first|refine eG rfl yD ?_|refine aV ?_|refine bH ?_|refine cR ?_)
   exact ⟨b5,b7,bk,⟨by rw [ho];rfl,rfl,rfl,rfl,rfl,rfl,rfl,trivial⟩,by omega,by omega,by omega,by omega,k1.grow (g2.trans hg),k2.grow hg,hbk,g1.trans (g2.trans hg)⟩
 rintro e w0 ⟨b5,b7,b8,hsub,q5,q7,q8,q0,e5,e7,e8,hgr0⟩
 refine cT (e':=[(11,_),(10,_),(8,_),(7,_),(5,_),(2,_),(0,_)]) ?_ hsub
 clear hsub
 refine fJ 5 (λ e W=>∃ (b12 b14 b15:Nat) (s A B:NV) (G:Nat→Prop) (ka:Option Addr) (kc:Nat),Sub [(16,.slice ka (nd.keys.getD (i-1) []).length kc),(15,.pointer (some ⟨b15,0,none⟩)),(14,.pointer (some ⟨b14,0,none⟩)),(12,.pointer (some ⟨b12,0,none⟩)),(10,.int .i64 ((i-1:Nat):Int)),(8,.pointer (some ⟨b8,0,none⟩)),(5,.pointer (some ⟨b5,0,none⟩)),(2,.int .i64 (i:Int)),(0,.pointer (some ⟨L.p,0,none⟩))] e ∧
  (∀ k,G k↔F k∧k≠b5∧k≠b8∧k≠b14∧k≠b15)∧NdAt G W s sib∧NdAt G W x nd∧NdAt G W A (if i=0 then low else sib)∧NdAt G W B (if i=0 then sib else low)∧Sl G W 1 ka (nd.keys.getD (i-1) []).length kc (cX (nd.keys.getD (i-1) [])) ∧
  Blk W b5 79 x.cs∧Blk W b8 79 nil3∧Blk W b12 79 s.cs∧Blk W b14 79 A.cs∧Blk W b15 79 B.cs∧Grow w W ∧
  w0.heap.size≤b12∧w0.heap.size≤b14∧w0.heap.size≤b15∧b12≠b14∧b12≠b15∧b14≠b15) ?_ ?_
 rotate_left
 ·have hu:=eQ hsib
  have hnlt:=eF hu
  have hcn:=h.cnt
  have hrd:gB (g.body kp)=some sib:=by unfold dQ at hsib;rw [if_pos hu] at hsib;exact hsib
  obtain ⟨G0,hG0⟩:∃ G:Nat→Prop,∀ k,G k↔F k∧k≠b5∧k≠b7∧k≠b8:=⟨_,λ _=>Iff.rfl⟩
  have cg:Carry F w G0 w0:=(Carry.mono (λ k hk hl=>(hG0 k).2 ⟨hk,by omega,by omega,by omega⟩)).trans (Carry.grow hgr0)
  have hx0:=hx.go cg
  have hy0:=hy.go cg
  have hsk:=hx0.kids
  have hcx:w0.cell? (at' x.a2 (o*1))=some (.int .i64 (kp:Int)):=hsk.row.cell (by rw [Nat.mul_one,show cB nd.kids=nd.kids.map λ (k:Nat)=>(.int .i64 (k:Int):Value) from rfl,List.getElem?_map,hkp];rfl)
  repeat (first|(refine bF ?_;refine aW (j:=o) rfl rfl rfl (by omega) rfl ⟨_,_,hsk⟩ rfl ?_)|(refine aB ?_;refine TL.pure rfl rfl ?_)|refine aK rfl yM rfl ?_|refine aF rfl rfl ?_|refine aC ?_|refine cQ ?_)
  refine aL 127 ?_
  refine aI rfl (node_c (h.grow hgr0) kp (by omega) hu) rfl ?_
  rintro _ w3 ⟨hv,hg3⟩
  rw [hrd] at hv
  obtain ⟨s,rfl,hs⟩:=hv
  have z3:=hg3.size
  have hs3:NdAt G0 w3 s sib:=hs.go (Carry.mono λ k hk _=>(hG0 k).2 ⟨hFw k (by omega),by omega,by omega,by omega⟩)
  have hx3:=hx0.go (Carry.grow hg3)
  have hy3:=hy0.go (Carry.grow hg3)
  have f5:=e5.grow hg3
  have f7:=e7.grow hg3
  have f8:=e8.grow hg3
  have hgr3:=hgr0.trans hg3
  obtain ⟨G1,hG1⟩:∃ G:Nat→Prop,∀ k,G k↔G0 k∧k<w3.heap.size:=⟨_,λ _=>Iff.rfl⟩
  have c1:Carry G0 w3 G1 w3:=Carry.mono λ k hk hl=>(hG1 k).2 ⟨hk,hl⟩
  replace hs3:=hs3.go c1
  replace hx3:=hx3.go c1
  replace hy3:=hy3.go c1
  clear cg hx0 hy0 hsk hcx hs hg3 e5 e7 e8 c1 hgr0
  obtain ⟨w3',rfl⟩:∃ z,z=w3:=⟨w3,rfl⟩
  repeat (first|(refine aB ?_;refine TL.pure rfl rfl ?_)|(refine aD ?_;refine TL.pure rfl rfl ?_)|refine TL.nil ?_|refine aA ?_|refine aJ ?_|refine aC ?_|(refine aH ?_;refine aR rfl yD rfl ?_)|(refine aP ?_;(refine aY rfl rfl yB (by exact rfl) (by exact rfl) (by exact rfl) ?_;intro w' hu hbk hsz))|(refine bD ?_;(refine TL.alloc rfl rfl ?_;intro bk w' hg hbk hsz hsz'))|refine aE rfl ?_|refine aV ?_|refine TL.pure rfl rfl ?_|refine bH ?_|refine cQ ?_)
  obtain ⟨b12,rfl⟩:∃ z,z=bk:=⟨bk,rfl⟩
  have c2:Carry G1 w3' G1 w':=(Carry.grow hg).trans (Carry.upd hu (λ k hk _=>by have:=((hG1 k).1 hk).2;omega))
  replace hs3:=hs3.go c2
  replace hx3:=hx3.go c2
  replace hy3:=hy3.go c2
  replace f5:=(f5.grow hg).upd hu (by omega)
  replace f7:=(f7.grow hg).upd hu (by omega)
  replace f8:=(f8.grow hg).upd hu (by omega)
  have f12:Blk w' b12 79 s.cs:=hbk
  have hgr4:Grow w w':=aZ hu (by omega) (hgr3.trans hg)
  have q12:w3'.heap.size=b12∧w'.heap.size=b12+1:=by omega
  clear c2 hbk hg hu hgr3 hsz hsz'
  obtain ⟨w4,rfl⟩:∃ z,z=w':=⟨w',rfl⟩
  apply T.any 4 [is (.agg #[.slice s.a1 s.n1 s.c1,.slice s.a2 s.n2 s.c2,.slice s.a3 s.n3 s.c3]),is (.bool (cK low)),is (.agg #[.slice y.a1 y.n1 y.c1,.slice y.a2 y.n2 y.c2,.slice y.a3 y.n3 y.c3]),is (.bool (cK low))]
  ·rfl
  ·repeat' (first|exact bX|refine bU ?_ ?_)
   ·(refine aQ rfl rfl rfl ?_);( intro wq _ _ hgq;(repeat (refine aG rfl rfl ?_;intro vq hvq;try (obtain rfl:=hvq)));(refine aM ?_))
    repeat (first|(refine aU ?_;refine bE rfl yB (by exact rfl) rfl ?_)|refine TL.nil ?_)
    exact aS rfl yG rfl
   ·(refine aQ rfl rfl rfl ?_);( intro wq _ _ hgq;(repeat (refine aG rfl rfl ?_;intro vq hvq;try (obtain rfl:=hvq)));(refine aM ?_))
    refine aL 80 ?_
    refine aI rfl (eX hs3 hll _) rfl ?_
    rintro _ wr ⟨rfl,hgr⟩
    repeat (refine TL.nil ?_)
    exact aS rfl yG rfl
   ·(refine aQ rfl rfl rfl ?_);( intro wq _ _ hgq;(repeat (refine aG rfl rfl ?_;intro vq hvq;try (obtain rfl:=hvq)));(refine aM ?_))
    repeat (first|(refine aU ?_;refine bE rfl yB (by exact rfl) rfl ?_)|refine TL.nil ?_)
    exact aS rfl yG rfl
   ·(refine aQ rfl rfl rfl ?_);( intro wq _ _ hgq;(repeat (refine aG rfl rfl ?_;intro vq hvq;try (obtain rfl:=hvq)));(refine aM ?_))
    refine aL 80 ?_
    refine aI rfl (eX hy3 rfl _) rfl ?_
    rintro _ wr ⟨rfl,hgr⟩
    repeat (refine TL.nil ?_)
    exact aS rfl yG rfl
  ·intro w5 lot hit hgt _ _
   iterate 4 (refine aG rfl rfl ?_;intro vq hvq;try (obtain rfl:=hvq))
   refine aM ?_
   refine TL.neBool (c:=false) rfl rfl (bne_self_eq_false _) rfl ?_
   replace hs3:=hs3.go (Carry.grow hgt)
   replace hx3:=hx3.go (Carry.grow hgt)
   replace hy3:=hy3.go (Carry.grow hgt)
   replace f5:=f5.grow hgt
   replace f7:=f7.grow hgt
   replace f8:=f8.grow hgt
   replace f12:=f12.grow hgt
   have hgr5:=hgr4.trans hgt
   have z5:=hgt.size
   clear hgt hgr4
   obtain ⟨kk,hkk⟩:∃ q,nd.keys[i-1]? = some q:=⟨_,List.getElem?_eq_getElem (by omega)⟩
   have ekk:nd.keys.getD (i-1) []=kk:=by rw [List.getD_eq_getElem?_getD,hkk];rfl
   rw [ekk]
   obtain ⟨kcs,hkr,hkc⟩:=hx3.kys.ex
   obtain ⟨kv,kf,hkv⟩:=hkc.at' hkk
   obtain ⟨ka,kc,rfl,hks⟩:=hkv.sl
   repeat (first|refine TL.nil ?_|refine aA ?_|refine aE rfl ?_|refine aV ?_|refine bH ?_|refine cQ ?_)
   apply T.inv 11 (RepJ G1 w w5 s y x b5 b7 b8 b12 i (.slice ka kk.length kc))
   ·rfl
   ·exact λ w1 h1=>⟨Carry.grow h1,f12.grow h1,f7.grow h1,f5.grow h1,f8.grow h1,hgr5.trans h1,λ j _ hd=>(by cases hd),λ hd=>(by cases hd),λ hd=>(by cases hd),λ hd=>(by cases hd),λ hd=>(by cases hd),λ hd=>(by cases hd)⟩
   ·repeat' (first|exact allInv_end|refine allInv_cons ?_ ?_)
    ·refine lO (js:=[]) rfl rfl ?_
     rintro dn vs wq J hd hdep
     have j12:=J.i12
     repeat (first|(refine aU ?_;refine bE rfl yB (by exact rfl) rfl ?_)|refine TL.nil ?_)
     exact kV rfl (J.plain 0 (by decide) rfl)
    ·refine lO (js:=[]) rfl rfl ?_
     rintro dn vs wq J hd hdep
     have j7:=J.i7
     repeat (first|(refine aU ?_;refine bE rfl yB (by exact rfl) rfl ?_)|refine TL.nil ?_)
     exact kV rfl (J.plain 1 (by decide) rfl)
    ·refine lO (js:=[]) rfl rfl ?_
     rintro dn vs wq J hd hdep
     repeat (first|refine aF rfl rfl ?_|refine TL.nil ?_)
     exact kV rfl (J.plain 2 (by decide) rfl)
    ·refine lO (js:=[2]) rfl rfl ?_
     rintro dn vs wq J hd hdep
     have j5:=J.i5
     show TL _ _ _ _ ((52,vs 2)::_) _ _
     rw [show vs 2=.pointer (some ⟨b5,2,none⟩) from J.iv 2 (by decide) (hdep 2 (by simp))]
     repeat (first|refine aK rfl yM rfl ?_|refine TL.nil ?_)
     exact kV rfl (J.plain 3 (by decide) rfl)
    ·refine lO (js:=[]) rfl rfl ?_
     rintro dn vs wq J hd hdep
     repeat (first|(refine aB ?_;refine TL.pure rfl rfl ?_)|refine TL.nil ?_)
     exact kV rfl (J.plain 4 (by decide) rfl)
    ·refine lO (js:=[3,4]) rfl rfl ?_
     rintro dn vs wq J hd hdep
     show TL _ _ _ _ ((54,vs 4)::(53,vs 3)::_) _ _
     rw [show vs 3=.slice x.a3 x.n3 x.c3 from J.iv 3 (by decide) (hdep 3 (by simp)),show vs 4=.int .i64 ((i-1:Nat):Int) from J.iv 4 (by decide) (hdep 4 (by simp))]
     repeat (first|(refine bF ?_;refine aW (j:=i-1) rfl rfl rfl (by omega) rfl ⟨_,_,hkr.go J.ic⟩ rfl ?_)|refine TL.nil ?_)
     exact kV rfl (J.plain 5 (by decide) rfl)
    ·refine lO (js:=[5]) rfl rfl ?_
     rintro dn vs wq J hd hdep
     show TL _ _ _ _ ((55,vs 5)::_) _ _
     rw [show vs 5=.pointer (some (at' x.a3 ((i-1)*1))) from J.iv 5 (by decide) (hdep 5 (by simp))]
     have hcx:wq.cell? (at' x.a3 ((i-1)*1))=some (.slice ka kk.length kc):=(hkr.go J.ic).row.cell (by rw [Nat.mul_one];exact kf)
     repeat (first|refine aK rfl yM rfl ?_|refine TL.nil ?_)
     exact kV rfl (J.plain 6 (by decide) rfl)
    ·refine lO (js:=[]) rfl rfl ?_
     rintro dn vs wq J hd hdep
     repeat (first|refine TL.nil ?_|(refine bD ?_;(refine TL.alloc rfl rfl ?_;intro bk w' hg hbk hsz hsz')))
     have hn9:dn 9=false:=by
      cases h9:dn 9 with
      | false=>rfl
      | true=>rw [J.d9 h9] at hd;cases hd
     have zq:=J.ic.size
     refine kV rfl ⟨J.ic.trans (Carry.grow hg),J.i12.grow hg,J.i7.grow hg,J.i5.grow hg,J.i8.grow hg,J.ig.trans hg,λ m hm hd'=>?_,λ _=>⟨bk,upV_self _ _ _,by omega,by omega,?_⟩,λ h8=>?_,λ _ h8=>?_,λ _=>upB_self _ _,λ h10=>?_⟩
     ·rw [gW (by omega)];rw [eJ (by omega)] at hd';exact J.iv m hm hd'
     ·rw [eJ (by omega),hn9];exact hbk
     ·rw [eJ (by omega)] at h8
      obtain ⟨b,h1,h2,h3,h4⟩:=J.i88 h8
      rw [gW (by omega),eJ (by omega)]
      exact ⟨b,h1,h2,by omega,h4.grow hg⟩
     ·rw [eJ (by omega)] at h8
      obtain ⟨b,h1,h2,h3,h4⟩:=J.i88 h8
      rw [upV_self,gW (by omega),h1]
      intro hh
      cases hh
      omega
     ·rw [eJ (by omega)] at h10 ⊢;exact J.d10 h10
    ·refine lO (js:=[]) rfl rfl ?_
     rintro dn vs wq J hd hdep
     repeat (first|refine TL.nil ?_|(refine bD ?_;(refine TL.alloc rfl rfl ?_;intro bk w' hg hbk hsz hsz')))
     have hn10:dn 10=false:=by
      cases h9:dn 10 with
      | false=>rfl
      | true=>rw [J.d10 h9] at hd;cases hd
     have zq:=J.ic.size
     refine kV rfl ⟨J.ic.trans (Carry.grow hg),J.i12.grow hg,J.i7.grow hg,J.i5.grow hg,J.i8.grow hg,J.ig.trans hg,λ m hm hd'=>?_,λ h7=>?_,λ _=>⟨bk,upV_self _ _ _,by omega,by omega,?_⟩,λ h7 _=>?_,λ h9=>?_,λ _=>upB_self _ _⟩
     ·rw [gW (by omega)];rw [eJ (by omega)] at hd';exact J.iv m hm hd'
     ·rw [eJ (by omega)] at h7
      obtain ⟨b,h1,h2,h3,h4⟩:=J.i77 h7
      rw [gW (by omega),eJ (by omega)]
      exact ⟨b,h1,h2,by omega,h4.grow hg⟩
     ·rw [eJ (by omega),hn10];exact hbk
     ·rw [eJ (by omega)] at h7
      obtain ⟨b,h1,h2,h3,h4⟩:=J.i77 h7
      rw [upV_self,gW (by omega),h1]
      intro hh
      cases hh
      omega
     ·rw [eJ (by omega)] at h9 ⊢;exact J.d9 h9
    ·refine lO (js:=[0,7,8]) rfl rfl ?_
     rintro dn vs wq J hd hdep
     obtain ⟨b14,v7,r1,r2,r3⟩:=J.i77 (hdep 7 (by simp))
     rw [hd] at r3
     have hj14:Blk wq b14 79 nil3:=r3
     have zq:=J.ic.size
     show TL _ _ _ _ ((15,vs 8)::(14,vs 7)::(50,vs 0)::_) _ _
     rw [v7,show vs 0=.agg #[.slice s.a1 s.n1 s.c1,.slice s.a2 s.n2 s.c2,.slice s.a3 s.n3 s.c3] from J.iv 0 (by decide) (hdep 0 (by simp))]
     clear r3
     repeat (first|refine TL.nil ?_|(refine aP ?_;(refine aY rfl rfl yB (by exact rfl) (by exact rfl) (by exact rfl) ?_;intro w' hu hbk hsz)))
     have zu:=hu.size
     refine inv_end0 ⟨J.ic.trans (Carry.upd hu (λ k hk _=>by have:=((hG1 k).1 hk).2;omega)),J.i12.upd hu (by omega),J.i7.upd hu (by omega),J.i5.upd hu (by omega),J.i8.upd hu (by omega),aZ hu (by omega) J.ig,λ m hm hd'=>?_,λ _=>⟨b14,?_,r1,by omega,?_⟩,λ h8=>?_,λ h7 h8=>?_,λ _=>?_,λ h10=>?_⟩
     ·rw [gW (by omega)];rw [eJ (by omega)] at hd';exact J.iv m hm hd'
     ·rw [gW (by omega)];exact v7
     ·rw [upB_self];exact hbk
     ·rw [eJ (by omega)] at h8
      obtain ⟨b,h1,h2,h3,h4⟩:=J.i88 h8
      rw [gW (by omega),eJ (by omega)]
      refine ⟨b,h1,h2,by omega,h4.upd hu (λ e=>?_)⟩
      have:=J.ine (hdep 7 (by simp)) h8
      rw [v7,h1,e] at this
      exact this rfl
     ·rw [eJ (by omega)] at h7 h8
      rw [gW (by omega),gW (by omega)]
      exact J.ine h7 h8
     ·rw [eJ (by omega)];exact hdep 7 (by simp)
     ·rw [eJ (by omega)] at h10 ⊢;exact J.d10 h10
    ·refine lO (js:=[0,1,7,8,9]) rfl rfl ?_
     rintro dn vs wq J hd hdep
     obtain ⟨b15,v8,r1,r2,r3⟩:=J.i88 (hdep 8 (by simp))
     rw [hd] at r3
     have hj15:Blk wq b15 79 nil3:=r3
     have zq:=J.ic.size
     show TL _ _ _ _ ((15,vs 8)::(14,vs 7)::(51,vs 1)::(50,vs 0)::_) _ _
     rw [v8,show vs 1=.agg #[.slice y.a1 y.n1 y.c1,.slice y.a2 y.n2 y.c2,.slice y.a3 y.n3 y.c3] from J.iv 1 (by decide) (hdep 1 (by simp))]
     clear r3
     repeat (first|refine TL.nil ?_|(refine aP ?_;(refine aY rfl rfl yB (by exact rfl) (by exact rfl) (by exact rfl) ?_;intro w' hu hbk hsz)))
     have zu:=hu.size
     refine inv_end0 ⟨J.ic.trans (Carry.upd hu (λ k hk _=>by have:=((hG1 k).1 hk).2;omega)),J.i12.upd hu (by omega),J.i7.upd hu (by omega),J.i5.upd hu (by omega),J.i8.upd hu (by omega),aZ hu (by omega) J.ig,λ m hm hd'=>?_,λ h7=>?_,λ _=>⟨b15,?_,r1,by omega,?_⟩,λ h7 h8=>?_,λ h9=>?_,λ _=>?_⟩
     ·rw [gW (by omega)];rw [eJ (by omega)] at hd';exact J.iv m hm hd'
     ·rw [eJ (by omega)] at h7
      obtain ⟨b,h1,h2,h3,h4⟩:=J.i77 h7
      rw [gW (by omega),eJ (by omega)]
      refine ⟨b,h1,h2,by omega,h4.upd hu (λ e=>?_)⟩
      have:=J.ine h7 (hdep 8 (by simp))
      rw [v8,h1,e] at this
      exact this rfl
     ·rw [gW (by omega)];exact v8
     ·rw [upB_self];exact hbk
     ·rw [eJ (by omega)] at h7 h8
      rw [gW (by omega),gW (by omega)]
      exact J.ine h7 h8
     ·rw [eJ (by omega)] at h9 ⊢;exact J.d9 h9
     ·rw [eJ (by omega)];exact hdep 8 (by simp)
   ·rintro dn vs w6 J hall
    have zJ:=J.ic.size
    obtain ⟨b14,v7,r1,r2,r3⟩:=J.i77 (hall 7 (by decide))
    obtain ⟨b15,v8,t1,t2,t3⟩:=J.i88 (hall 8 (by decide))
    rw [hall 9 (by decide)] at r3
    rw [hall 10 (by decide)] at t3
    have j14:Blk w6 b14 79 s.cs:=r3
    have j15:Blk w6 b15 79 y.cs:=t3
    have hne:b14≠b15:=λ e=>by
     have:=J.ine (hall 7 (by decide)) (hall 8 (by decide))
     rw [v7,v8,e] at this
     exact this rfl
    have v6:vs 6=.slice ka kk.length kc:=J.iv 6 (by decide) (hall 6 (by decide))
    show TL _ _ _ _ ((15,vs 8)::(14,vs 7)::(56,vs 6)::(55,vs 5)::(54,vs 4)::(53,vs 3)::(52,vs 2)::(51,vs 1)::(50,vs 0)::_) _ _
    rw [v8,v7,v6]
    have h3:=hs3.go J.ic
    have h4:=hx3.go J.ic
    have h5:=hy3.go J.ic
    have h6:=hks.go J.ic
    have j12:=J.i12
    have j7:=J.i7
    have j5:=J.i5
    have j8:=J.i8
    have hgr6:=J.ig
    clear J r3 t3 hall hs3 hx3 hy3 hks f5 f7 f8 f12 hkr hgr5 v8 v7 v6
    obtain ⟨G,hG⟩:∃ G:Nat→Prop,∀ k,G k↔F k∧k≠b5∧k≠b8∧k≠b14∧k≠b15:=⟨_,λ _=>Iff.rfl⟩
    have cG:∀ wz:World,Carry G1 wz G wz:=λ wz=>Carry.mono λ k hk _=>by
     have e1:=(hG1 k).1 hk
     have e2:=(hG0 k).1 e1.1
     exact (hG k).2 ⟨e2.1,e2.2.1,e2.2.2.2,by omega,by omega⟩
    by_cases hi0:i=0
    ·repeat (first|(refine aB ?_;refine TL.pure rfl rfl ?_)|(refine aD ?_;refine TL.pure rfl rfl ?_)|refine TL.nil ?_|refine aA ?_|refine aJ ?_|refine aC ?_|(refine aH ?_;refine bA rfl yD rfl ?_)|refine aN rfl ?_|refine bH ?_|refine cQ ?_)
     apply T.detA 3 2 [.agg #[.slice y.a1 y.n1 y.c1,.slice y.a2 y.n2 y.c2,.slice y.a3 y.n3 y.c3],.agg #[.slice s.a1 s.n1 s.c1,.slice s.a2 s.n2 s.c2,.slice s.a3 s.n3 s.c3],undef]
      (λ b w1=>Carry G1 w6 G1 w1∧Blk w1 b12 79 s.cs∧Blk w1 b7 79 y.cs∧Blk w1 b5 79 x.cs∧Blk w1 b8 79 nil3∧Blk w1 b14 79 (if b then y.cs else s.cs)∧Blk w1 b15 79 y.cs∧Grow w w1)
     ·rfl
     ·exact λ w1 h1=>⟨Carry.grow h1,j12.grow h1,j7.grow h1,j5.grow h1,j8.grow h1,j14.grow h1,j15.grow h1,hgr6.trans h1⟩
     ·clear j12 j7 j5 j8 j14 j15
      repeat' (first|exact iF|refine gQ ?_ ?_)
      ·refine cI rfl rfl rfl ?_
       rintro b wq _ ⟨i1,i12,i7,i5,i8,i14,i15,ig⟩
       repeat (first|(refine aU ?_;refine bE rfl yB (by exact rfl) rfl ?_)|refine TL.nil ?_)
       refine bB rfl ?_
       rw [show (b || Nat.beq 0 2)=b from Bool.or_false b]
       exact ⟨i1,i12,i7,i5,i8,i14,i15,ig⟩
      ·refine cI rfl rfl rfl ?_
       rintro b wq _ ⟨i1,i12,i7,i5,i8,i14,i15,ig⟩
       repeat (first|(refine aU ?_;refine bE rfl yB (by exact rfl) rfl ?_)|refine TL.nil ?_)
       refine bB rfl ?_
       rw [show (b || Nat.beq 1 2)=b from Bool.or_false b]
       exact ⟨i1,i12,i7,i5,i8,i14,i15,ig⟩
      ·refine cI rfl rfl rfl ?_
       rintro b wq hb ⟨i1,i12,i7,i5,i8,i14,i15,ig⟩
       obtain rfl:=hb rfl
       have i14':Blk wq b14 79 s.cs:=i14
       clear i14
       repeat (first|refine TL.nil ?_|(refine aP ?_;(refine aY rfl rfl yB (by exact rfl) (by exact rfl) (by exact rfl) ?_;intro w' hu hbk hsz)))
       exact iD ⟨i1.trans (Carry.upd hu (λ k hk _=>by have:=((hG1 k).1 hk).2;omega)),i12.upd hu (by omega),i7.upd hu (by omega),i5.upd hu (by omega),i8.upd hu (by omega),hbk,i15.upd hu (by omega),aZ hu (by omega) ig⟩
     ·rintro w7 ⟨i1,i12,i7,i5,i8,i14,i15,ig⟩
      have i14':Blk w7 b14 79 y.cs:=i14
      have z7:=i1.size
      clear i14 j14 j15 j5 j8 j12 j7
      repeat (first|refine TL.nil ?_|(refine aP ?_;(refine aY rfl rfl yB (by exact rfl) (by exact rfl) (by exact rfl) ?_;intro w' hu hbk hsz))|refine bH ?_|refine cR ?_)
      have c7:Carry G1 w6 G w':=i1.trans ((Carry.upd hu (λ k hk _=>by have:=((hG1 k).1 hk).2;omega)).trans (cG _))
      refine ⟨b12,b14,b15,s,y,s,G,ka,kc,⟨rfl,rfl,rfl,rfl,rfl,rfl,rfl,rfl,rfl,trivial⟩,hG,h3.go c7,h4.go c7,?_,?_,h6.go c7,i5.upd hu (by omega),i8.upd hu (by omega),i12.upd hu (by omega),i14'.upd hu (by omega),hbk,aZ hu (by omega) ig,by omega,by omega,by omega,by omega,by omega,hne⟩
      ·rw [if_pos hi0];exact h5.go c7
      ·rw [if_pos hi0];exact h3.go c7
    ·repeat (first|(refine aB ?_;refine TL.pure rfl rfl ?_)|(refine aD ?_;refine TL.pure rfl rfl ?_)|refine TL.nil ?_|refine aA ?_|refine aJ ?_|refine aC ?_|(refine aH ?_;refine aR rfl yD rfl ?_)|refine aE rfl ?_|refine aV ?_|refine bH ?_|refine cQ ?_|refine cR ?_)
     have c7:=cG w6
     refine ⟨b12,b14,b15,s,s,y,G,ka,kc,⟨rfl,rfl,rfl,rfl,rfl,rfl,rfl,rfl,rfl,trivial⟩,hG,h3.go c7,h4.go c7,?_,?_,h6.go c7,j5,j8,j12,j14,j15,hgr6,by omega,by omega,by omega,by omega,by omega,hne⟩
     ·rw [if_neg hi0];exact h3.go c7
     ·rw [if_neg hi0];exact h5.go c7
 rintro e W ⟨b12,b14,b15,s,A,B,G,ka,kc,hsub,hG,hs,hx1,hA,hB,hk,f5,f8,f12,f14,f15,hgW,r12,r14,r15,n1,n2,n3⟩
 refine cT (e':=[(16,_),(15,_),(14,_),(12,_),(10,_),(8,_),(5,_),(2,_),(0,_)]) ?_ hsub
 clear hsub e5 e7 e8
 have hoks:=iO hsib
 have hs8:=node_le hsib
 obtain ⟨key,hkey⟩:∃ q,q=nd.keys.getD (i-1) []:=⟨_,rfl⟩
 rw [← hkey] at hk hwa hre
 obtain ⟨parts,keys,hmend⟩:∃ p q,(p,q)=gX sib low i key:=⟨_,_,rfl⟩
 rw [show (gX sib low i key).1=parts by rw [← hmend]] at hwa
 rw [show (gX sib low i key).2=keys by rw [← hmend]] at hre
 have hkb:kW key:=by rw [hkey];exact getD_by hbn.2 _
 obtain ⟨hpb,hqb⟩:=mendN_by (i:=i) (key:=key) (nodeP_by (λ n=>h.lt n) hsib) hbl hkb
 rw [show (gX sib low i key).1=parts by rw [← hmend]] at hpb
 rw [show (gX sib low i key).2=keys by rw [← hmend]] at hqb
 have hsn:=hs.nums
 have zW:=hgW.size
 have l5:=f5.lt
 have l8:=f8.lt
 have l12:=f12.lt
 have l14:=f14.lt
 have l15:=f15.lt
 have hkn:∃ q,q=key.length:=⟨_,rfl⟩
 rw [← hkey]
 obtain ⟨G2,hG2⟩:∃ G:Nat→Prop,∀ k,G k↔F k∧k≠b5∧k≠b8:=⟨_,λ _=>Iff.rfl⟩
 have cG:∀ wz:World,Carry G wz G2 wz:=λ wz=>Carry.mono λ k hk _=>by
  have e1:=(hG k).1 hk
  exact (hG2 k).2 ⟨e1.1,e1.2.1,e1.2.2.1⟩
 have hGF:∀ wq:World,W.heap.size≤wq.heap.size→∀ k,wq.heap.size≤k→G k:=λ wq hq k hk=>(hG k).2 ⟨hFw k (by omega),by omega,by omega,by omega,by omega⟩
 have hbsib:sib.items.length≤1000∧sib.kids.length≤1000∧sib.keys.length≤1000:=by
  have e1:=hs8
  unfold bK at e1
  have e2:=hoks
  unfold cH at e2
  split at e2
  ·obtain ⟨h1,h2,_⟩:=dL e2
   rw [h1]
   simp
   omega
  ·obtain ⟨_,_,h2,h3,_⟩:=cU e2
   omega
 refine fJ 3 (λ e W2=>∃ (a:Option Addr) (c:Nat) (cells:List Value) (a3:Option Addr) (n3 c3:Nat),Sub [(18,.slice a3 n3 c3),(17,.slice a parts.length c),(10,.int .i64 ((i-1:Nat):Int)),(8,.pointer (some ⟨b8,0,none⟩)),(5,.pointer (some ⟨b5,0,none⟩)),(0,.pointer (some ⟨L.p,0,none⟩))] e ∧
  Sl G2 W2 3 a parts.length c cells∧NdsAt G2 W2 cells parts∧KysAt G2 W2 a3 n3 c3 keys∧NdAt G2 W2 x nd∧Blk W2 b5 79 x.cs∧Blk W2 b8 79 nil3∧Grow w W2) ?_ ?_
 rotate_left
 ·obtain ⟨sn1,sn2,sn3⟩:=hsn
  by_cases h4:bK sib≤4
  ·have h4':s.n1+s.n2≤4:=by unfold bK at h4;omega
   have hm:(parts,keys)=([lM (if i=0 then low else sib) key (if i=0 then sib else low)],([]:List Bs)):=by
    rw [hmend];unfold gX;simp only;rw [if_pos h4]
   simp only [Prod.mk.injEq] at hm
   obtain ⟨rfl,rfl⟩:=hm
   repeat (first|(refine aB ?_;refine TL.pure rfl rfl ?_)|(refine aD ?_;refine TL.pure rfl rfl ?_)|(refine aU ?_;refine bE rfl yB (by exact rfl) rfl ?_)|refine TL.nil ?_|refine aA ?_|refine aJ ?_|refine aC ?_|refine T.block ?_|(refine aH ?_;refine bA rfl yD rfl ?_)|refine aN rfl ?_|refine bH ?_|refine cQ ?_|(refine aL 83 ?_;refine aI rfl (iJ s _ (by omega) (by omega)) rfl ?_;rintro _ _ ⟨rfl,hgc⟩))
   rename_i w4
   refine aL 191 ?_
   refine aI rfl (merge_c G w4 (hGF _ hgc.size) A B _ _ ka key.length kc key (hA.go (Carry.grow hgc)) (hB.go (Carry.grow hgc)) (hk.grow hgc) (by split<;>assumption) (by split<;>assumption)) rfl ?_
   rintro _ w5 ⟨⟨z,rfl,hz⟩,hg5⟩
   have j5:=(f5.grow hgc).grow hg5
   have j8:=(f8.grow hgc).grow hg5
   have hx5:=hx1.go (Carry.grow (hgc.trans hg5))
   have hgr5:=hgW.trans (hgc.trans hg5)
   have z5:=(hgc.trans hg5).size
   clear hgc hg5 f5 f8 f12 f14 f15
   repeat (refine aJ ?_)
   refine TL.buildSlice rfl rfl rfl rfl rfl ?_
   intro b' wa hga hba hsa hsb hsc
   have hba':Blk wa b' 79 z.cs:=hba
   have k5:=j5.grow hga
   have k8:=j8.grow hga
   have hgra:=hgr5.trans hga
   have hz':=(hz.go (Carry.grow hga)).go (cG wa)
   have hx':=(hx5.go (Carry.grow hga)).go (cG wa)
   clear hba hga j5 j8
   repeat (first|(refine aD ?_;refine TL.pure rfl rfl ?_)|refine TL.nil ?_|refine aT ?_|refine bH ?_|refine cR ?_)
   exact ⟨some ⟨b',0,none⟩,1,z.cs,none,0,0,⟨rfl,rfl,rfl,rfl,rfl,rfl,trivial⟩,(bR (sz:=3) (m:=1) hba' rfl (by decide)).mono (λ k hk=>by subst hk;exact (hG2 _).2 ⟨hFw _ (by omega),by omega,by omega⟩),⟨⟨z,rfl,rfl,rfl,hz'⟩,trivial⟩,jF,hx',k5,k8,hgra⟩
  ·have h4':¬ s.n1+s.n2≤4:=by unfold bK at h4;omega
   by_cases hi0:i=0
   ·have hm:(parts,keys)=([(iS low key sib).1,(iS low key sib).2.2],[(iS low key sib).2.1]):=by
     rw [hmend,hi0];unfold gX;simp [h4]
    simp only [Prod.mk.injEq] at hm
    obtain ⟨rfl,rfl⟩:=hm
    rw [if_pos hi0] at hA hB
    repeat (first|(refine aB ?_;refine TL.pure rfl rfl ?_)|(refine aD ?_;refine TL.pure rfl rfl ?_)|(refine aU ?_;refine bE rfl yB (by exact rfl) rfl ?_)|refine TL.nil ?_|refine aA ?_|refine aJ ?_|refine aC ?_|refine T.block ?_|(refine aH ?_;refine aR rfl yD rfl ?_)|refine aE rfl ?_|refine bH ?_|refine cQ ?_|(refine aL 83 ?_;refine aI rfl (iJ s _ (by omega) (by omega)) rfl ?_;rintro _ _ ⟨rfl,hgc⟩))
    rename_i w4
    refine aL 193 ?_
    refine aI rfl (tback_c G w4 (hGF _ hgc.size) A B _ _ ka key.length kc key (hA.go (Carry.grow hgc)) (hB.go (Carry.grow hgc)) (hk.grow hgc) (by assumption) (by assumption) ?_ ?_) rfl ?_
    ·intro hl
     have:=hs8
     rw [← hll,dK] at hl
     unfold bK at h4
     rw [hl] at h4
     simp at h4
     omega
    ·intro hl
     have e2:=hoks
     unfold cH at e2
     rw [if_neg (by rw [hll,hl];simp)] at e2
     obtain ⟨_,h2,_,h3,_⟩:=cU e2
     exact ⟨h2,h3⟩
    rintro _ w5 ⟨⟨z1,z2,kv,rfl,hz1,hz2,hkv⟩,hg5⟩
    obtain ⟨kva,kvc,rfl,hkvs⟩:=hkv.sl
    have j5:=(f5.grow hgc).grow hg5
    have j8:=(f8.grow hgc).grow hg5
    have j14:=(f14.grow hgc).grow hg5
    have j15:=(f15.grow hgc).grow hg5
    have hx5:=hx1.go (Carry.grow (hgc.trans hg5))
    have hgr5:=hgW.trans (hgc.trans hg5)
    have z5:=(hgc.trans hg5).size
    clear hgc hg5 f5 f8 f12 f14 f15 hkv
    repeat (first|(refine aB ?_;refine TL.pure rfl rfl ?_)|(refine aD ?_;refine TL.pure rfl rfl ?_)|(refine aU ?_;refine bE rfl yB (by exact rfl) rfl ?_)|refine TL.nil ?_|refine aA ?_|refine aC ?_|(refine aP ?_;(refine aY rfl rfl yB (by exact rfl) (by exact rfl) (by exact rfl) ?_;intro w' hu hbk hsz))|refine TL.pure rfl rfl ?_)
    rename_i w6 hu6 hb6 zu6
    refine TL.buildSlice rfl rfl rfl rfl rfl ?_
    intro b' wa hga hba hsa hsb hsc
    have hba':Blk wa b' 79 (z1.cs++z2.cs):=hba
    have cu:Carry G w5 G w':=(Carry.upd hu6 (λ k hk _=>((hG k).1 hk).2.2.2.1)).trans (Carry.upd hu (λ k hk _=>((hG k).1 hk).2.2.2.2))
    have k5:=((j5.upd hu6 (by omega)).upd hu (by omega)).grow hga
    have k8:=((j8.upd hu6 (by omega)).upd hu (by omega)).grow hga
    have hgr6:Grow w w':=aZ hu (by omega) (aZ hu6 (by omega) hgr5)
    have zz:=hu6.size
    have zz':=hu.size
    clear j5 j8 j14 j15 hbk hb6 hu hu6 hba
    repeat ((refine aB ?_;refine TL.pure rfl rfl ?_))
    refine TL.buildSlice rfl rfl rfl rfl rfl ?_
    intro bq wq hgq hbq hsa' hsb' hsc'
    have hbq':Blk wq bq 30 [.slice kva (iS low key sib).2.1.length kvc]:=hbq
    have hgall:Grow w' wq:=hga.trans hgq
    have cz:=(cu.trans (Carry.grow hgall)).trans (cG wq)
    have m5:=k5.grow hgq
    have m8:=k8.grow hgq
    have hgr7:=hgr6.trans hgall
    have zq:=hgall.size
    have hba'':=hba'.grow hgq
    have hbal:=hba'.lt
    clear hbq k5 k8 hgq hga hba'
    repeat (first|(refine aD ?_;refine TL.pure rfl rfl ?_)|refine TL.nil ?_|refine aT ?_|refine bH ?_|refine cR ?_)
    refine ⟨some ⟨b',0,none⟩,2,z1.cs++z2.cs,some ⟨bq,0,none⟩,1,1,⟨rfl,rfl,rfl,rfl,rfl,rfl,trivial⟩,?_,⟨⟨z1,rfl,rfl,rfl,hz1.go cz⟩,⟨z2,rfl,rfl,rfl,hz2.go cz⟩,trivial⟩,⟨[.slice kva (iS low key sib).2.1.length kvc],?_,⟨_,_,_,rfl,hkvs.go cz⟩,trivial⟩,hx5.go cz,m5,m8,hgr7⟩
    ·exact (bR (sz:=3) (m:=2) hba'' rfl (by decide)).mono (λ k hk=>by subst hk;exact (hG2 _).2 ⟨hFw _ (by omega),by omega,by omega⟩)
    ·exact (bR (sz:=1) (m:=1) hbq' rfl (by decide)).mono (λ k hk=>by subst hk;exact (hG2 _).2 ⟨hFw _ (by omega),by omega,by omega⟩)
   ·have hm:(parts,keys)=([(fW sib key low).1,(fW sib key low).2.2],[(fW sib key low).2.1]):=by
     have hp:0<i:=by omega
     rw [hmend];unfold gX;simp [h4,hi0,hp]
    simp only [Prod.mk.injEq] at hm
    obtain ⟨rfl,rfl⟩:=hm
    rw [if_neg hi0] at hA hB
    repeat (first|(refine aB ?_;refine TL.pure rfl rfl ?_)|(refine aD ?_;refine TL.pure rfl rfl ?_)|(refine aU ?_;refine bE rfl yB (by exact rfl) rfl ?_)|refine TL.nil ?_|refine aA ?_|refine aJ ?_|refine aC ?_|refine T.block ?_|(refine aH ?_;first|refine bA rfl yD rfl ?_|refine aR rfl yD rfl ?_)|refine aN rfl ?_|refine aE rfl ?_|refine bH ?_|refine cQ ?_|(refine aL 83 ?_;refine aI rfl (iJ s _ (by omega) (by omega)) rfl ?_;rintro _ _ ⟨rfl,hgc⟩))
    rename_i w4
    refine aL 192 ?_
    refine aI rfl (tforth_c G w4 (hGF _ hgc.size) A B _ _ ka key.length kc key (hA.go (Carry.grow hgc)) (hB.go (Carry.grow hgc)) (hk.grow hgc) (by assumption) (by assumption) ?_ ?_) rfl ?_
    ·intro hl
     have:=hs8
     rw [dK] at hl
     unfold bK at h4
     rw [hl] at h4
     simp at h4
     omega
    ·intro hl
     have e2:=hoks
     unfold cH at e2
     rw [if_neg (by rw [hl];simp)] at e2
     obtain ⟨_,h2,_,h3,_⟩:=cU e2
     exact ⟨h2,h3⟩
    rintro _ w5 ⟨⟨z1,z2,kv,rfl,hz1,hz2,hkv⟩,hg5⟩
    obtain ⟨kva,kvc,rfl,hkvs⟩:=hkv.sl
    have j5:=(f5.grow hgc).grow hg5
    have j8:=(f8.grow hgc).grow hg5
    have j14:=(f14.grow hgc).grow hg5
    have j15:=(f15.grow hgc).grow hg5
    have hx5:=hx1.go (Carry.grow (hgc.trans hg5))
    have hgr5:=hgW.trans (hgc.trans hg5)
    have z5:=(hgc.trans hg5).size
    clear hgc hg5 f5 f8 f12 f14 f15 hkv
    repeat (first|(refine aB ?_;refine TL.pure rfl rfl ?_)|(refine aD ?_;refine TL.pure rfl rfl ?_)|(refine aU ?_;refine bE rfl yB (by exact rfl) rfl ?_)|refine TL.nil ?_|refine aA ?_|refine aC ?_|(refine aP ?_;(refine aY rfl rfl yB (by exact rfl) (by exact rfl) (by exact rfl) ?_;intro w' hu hbk hsz))|refine TL.pure rfl rfl ?_)
    rename_i w6 hu6 hb6 zu6
    refine TL.buildSlice rfl rfl rfl rfl rfl ?_
    intro b' wa hga hba hsa hsb hsc
    have hba':Blk wa b' 79 (z1.cs++z2.cs):=hba
    have cu:Carry G w5 G w':=(Carry.upd hu6 (λ k hk _=>((hG k).1 hk).2.2.2.1)).trans (Carry.upd hu (λ k hk _=>((hG k).1 hk).2.2.2.2))
    have k5:=((j5.upd hu6 (by omega)).upd hu (by omega)).grow hga
    have k8:=((j8.upd hu6 (by omega)).upd hu (by omega)).grow hga
    have hgr6:Grow w w':=aZ hu (by omega) (aZ hu6 (by omega) hgr5)
    have zz:=hu6.size
    have zz':=hu.size
    clear j5 j8 j14 j15 hbk hb6 hu hu6 hba
    repeat ((refine aB ?_;refine TL.pure rfl rfl ?_))
    refine TL.buildSlice rfl rfl rfl rfl rfl ?_
    intro bq wq hgq hbq hsa' hsb' hsc'
    have hbq':Blk wq bq 30 [.slice kva (fW sib key low).2.1.length kvc]:=hbq
    have hgall:Grow w' wq:=hga.trans hgq
    have cz:=(cu.trans (Carry.grow hgall)).trans (cG wq)
    have m5:=k5.grow hgq
    have m8:=k8.grow hgq
    have hgr7:=hgr6.trans hgall
    have zq:=hgall.size
    have hba'':=hba'.grow hgq
    have hbal:=hba'.lt
    clear hbq k5 k8 hgq hga hba'
    repeat (first|(refine aD ?_;refine TL.pure rfl rfl ?_)|refine TL.nil ?_|refine aT ?_|refine bH ?_|refine cR ?_)
    refine ⟨some ⟨b',0,none⟩,2,z1.cs++z2.cs,some ⟨bq,0,none⟩,1,1,⟨rfl,rfl,rfl,rfl,rfl,rfl,trivial⟩,?_,⟨⟨z1,rfl,rfl,rfl,hz1.go cz⟩,⟨z2,rfl,rfl,rfl,hz2.go cz⟩,trivial⟩,⟨[.slice kva (fW sib key low).2.1.length kvc],?_,⟨_,_,_,rfl,hkvs.go cz⟩,trivial⟩,hx5.go cz,m5,m8,hgr7⟩
    ·exact (bR (sz:=3) (m:=2) hba'' rfl (by decide)).mono (λ k hk=>by subst hk;exact (hG2 _).2 ⟨hFw _ (by omega),by omega,by omega⟩)
    ·exact (bR (sz:=1) (m:=1) hbq' rfl (by decide)).mono (λ k hk=>by subst hk;exact (hG2 _).2 ⟨hFw _ (by omega),by omega,by omega⟩)
 rintro e W2 ⟨a,c,cells,a3,n3,c3,hsub,hsl,hns,hky,hx2,g5,g8,hgW2⟩
 refine cT (e':=[(18,_),(17,_),(10,_),(8,_),(5,_),(0,_)]) ?_ hsub
 clear hsub hs hA hB hk f5 f8 f12 f14 f15 hx1 cG hGF hG hgW
 have hm2:parts.length≤2:=by
  have e1:=congrArg Prod.fst hmend
  simp only at e1
  rw [e1]
  unfold gX
  simp only
  split
  ·simp
  ·split<;>simp
 have hkl:kids.length=parts.length:=kP (s:=g) hwa
 have hql:keys.length≤1:=by
  have e1:=congrArg Prod.snd hmend
  simp only at e1
  rw [e1]
  unfold gX
  simp only
  split
  ·simp
  ·split<;>simp
 have zC:=hgW2.size
 have l5':=g5.lt
 have l8':=g8.lt
 obtain ⟨m,hm⟩:∃ m,m=parts.length:=⟨_,rfl⟩
 rw [← hm] at hsl hm2 ⊢
 have hn3:=hky.len
 repeat (first|(refine aB ?_;refine TL.pure rfl rfl ?_)|(refine aD ?_;refine TL.pure rfl rfl ?_)|refine TL.nil ?_|refine aA ?_|refine aJ ?_|refine aC ?_|refine T.block ?_|refine aO rfl rfl ?_)
 refine cM (S:=Nat×Pg×List Nat×List Nat×Value) (λ q=>[(101,.int .i64 (q.1:Int)),(100,.int .i64 (m:Int)),(99,.slice a m c),(19,q.2.2.2.2),(18,.slice a3 n3 c3),(10,.int .i64 ((i-1:Nat):Int)),(8,.pointer (some ⟨b8,0,none⟩)),(5,.pointer (some ⟨b5,0,none⟩)),(0,.pointer (some ⟨L.p,0,none⟩))])
  (λ q w1=>q.1≤m∧eI q.2.1 (parts.drop q.1)=some (q.2.2.2.1,g')∧q.2.2.1++q.2.2.2.1=kids∧PgAt w1 L q.2.1∧w1.ownsRow W2.heap.size 3 1 q.2.2.2.2 q.1 (cB q.2.2.1)∧Blk w1 b5 79 x.cs ∧
   Blk w1 b8 79 nil3∧Carry G2 W2 (λ k=>G2 k∧k<W2.heap.size) w1∧ButS L.S w w1) (λ q=>m-q.1) (0,g,[],kids,.slice none 0 0) ⟨rfl,rfl,rfl,rfl,rfl,rfl,rfl,rfl,rfl,trivial⟩
  ⟨by simp only;omega,hwa,rfl,h.grow hgW2,World.ownsRow_nil _ _ _ _,g5,g8,Carry.mono (λ k hk hl=>⟨hk,hl⟩),ButS.grow hgW2⟩ ?_
 rintro ⟨j,gj,kj,rj,u⟩ w1 ⟨hj,hwj,hkr,hp1,hown,hb5,hb8,hc1,hbs1⟩
 simp only at hj hwj hkr hp1 hown
 have z1:=hc1.size
 obtain ⟨ua,uc,rfl,hus⟩:=cE hown
 have n5:=hSl b5 (by omega)
 have n8:=hSl b8 (by omega)
 by_cases hlt:j<m
 rotate_left
 ·obtain rfl:j=m:=by omega
  rw [List.drop_eq_nil_of_le (by omega)] at hwj
  simp only [eI,Option.some.injEq,Prod.mk.injEq] at hwj
  obtain ⟨rfl,rfl⟩:=hwj
  rw [List.append_nil] at hkr
  subst hkr
  obtain ⟨G3,hG3⟩:∃ G:Nat→Prop,∀ k,G k↔F k∧k≠b5∧k≠b8:=⟨_,λ _=>Iff.rfl⟩
  have c3':∀ wz:World,Carry (λ k=>G2 k∧k<W2.heap.size) wz G3 wz:=λ wz=>Carry.mono λ k hk _=>(hG3 k).2 ((hG2 k).1 hk.1)
  have hGF:∀ wq:World,w1.heap.size≤wq.heap.size→∀ k,wq.heap.size≤k→G3 k:=λ wq hq k hk=>(hG3 k).2 ⟨hFw k (by omega),by omega,by omega⟩
  have hx3:=(hx2.go hc1).go (c3' _)
  have hky3:=(hky.go hc1).go (c3' _)
  have hus3:Sl G3 w1 1 ua j uc (cB kj):=hus.mono (λ k hk=>(hG3 k).2 ⟨hFw k (by omega),by omega,by omega⟩)
  clear hus hown hx2 hky hsl hns hc1
  repeat (first|(refine aB ?_;refine TL.pure rfl rfl ?_)|refine aK rfl yM rfl ?_|refine aF rfl rfl ?_|(refine bJ ?_;refine bT rfl rfl (by omega) rfl ?_)|refine TL.nil ?_|refine aA ?_|refine aJ ?_|refine aC ?_|(refine aH ?_;refine aR rfl yD rfl ?_)|refine aE rfl ?_|refine cN ?_|refine bM ?_|refine bO ?_|refine bN ?_)
  refine aL 97 ?_
  refine aI rfl (cutN_c (F:=G3) (hGF _ (Nat.le_refl _)) x.a2 x.n2 x.c2 (i-1) (i-1+2) nd.kids hx3.kids (by omega) (by omega) (by omega)) rfl ?_
  rintro _ w2' ⟨⟨ca,cc,rfl,hcut⟩,hg2⟩
  have j5:=hb5.grow hg2
  have j8:=hb8.grow hg2
  have z2:=hg2.size
  have k3:=hx3.go (Carry.grow hg2)
  have ky3:=hky3.go (Carry.grow hg2)
  have u3:=hus3.grow hg2
  have b2:=hbs1.trans (ButS.grow hg2)
  have p2:=hp1.grow hg2
  clear hb5 hb8 hg2 hx3 hky3 hus3 hbs1 hp1
  repeat ((refine aB ?_;refine TL.pure rfl rfl ?_))
  refine aL 96 ?_
  refine aI rfl (insN_c (F:=G3) (hGF _ (by omega)) ca ua (x.n2-(i-1+2-(i-1))) cc j uc (i-1) _ kj hcut u3 (by omega) (by omega)) rfl ?_
  rintro _ w3 ⟨⟨ia,ic,rfl,hins⟩,hg3⟩
  have l5:=j5.grow hg3
  have l8:=j8.grow hg3
  have z3:=hg3.size
  have k4:=k3.go (Carry.grow hg3)
  have ky4:=ky3.go (Carry.grow hg3)
  have b3:=b2.trans (ButS.grow hg3)
  have p3:=p2.grow hg3
  clear j5 j8 hg3 k3 ky3 b2 p2 u3 hcut
  repeat (first|(refine aB ?_;refine TL.pure rfl rfl ?_)|refine aK rfl yM rfl ?_|refine aF rfl rfl ?_|(refine bJ ?_;refine bT rfl rfl (by omega) rfl ?_)|refine TL.nil ?_|refine aA ?_|refine aJ ?_|refine aC ?_|(refine aP ?_;(refine bP rfl rfl yB (by exact rfl) (by exact rfl) (by exact rfl) ?_;intro w' hu hbk hsz)))
  have cu:Carry G3 w3 G3 w':=Carry.upd hu (λ k hk _=>((hG3 k).1 hk).2.1)
  have m5:Blk w' b5 79 [.slice x.a1 x.n1 x.c1,.slice ia (x.n2-(i-1+2-(i-1))+j) ic,.slice x.a3 x.n3 x.c3]:=hbk
  have m8:=l8.upd hu (by omega)
  have k5:=k4.go cu
  have ky5:=ky4.go cu
  have ins5:=hins.go cu
  have b4:=b3.upd hu (by omega)
  have p4:=p3.upd hu (by have:=h.lts;omega)
  have z4:=hu.size
  clear hbk hu cu l5 l8 k4 ky4 hins b3 p3 hsz
  obtain ⟨w4,rfl⟩:∃ z,z=w':=⟨w',rfl⟩
  refine aL 194 ?_
  refine aI rfl (cutK_c (F:=G3) (hGF _ (by omega)) x.a3 x.n3 x.c3 (i-1) (i-1+1) nd.keys k5.kys (by omega) (by omega) (by omega)) rfl ?_
  rintro _ w5 ⟨⟨da,dc,rfl,hcut⟩,hg5⟩
  have j5:=m5.grow hg5
  have j8:=m8.grow hg5
  have z5:=hg5.size
  have ky6:=ky5.go (Carry.grow hg5)
  have k6:=k5.go (Carry.grow hg5)
  have i6:=ins5.grow hg5
  have b5':=b4.trans (ButS.grow hg5)
  have p5':=p4.grow hg5
  clear m5 m8 hg5 k5 ky5 b4 p4 ins5
  repeat ((refine aB ?_;refine TL.pure rfl rfl ?_))
  refine aL 98 ?_
  refine aI rfl (insK_c (F:=G3) (hGF _ (by omega)) da a3 (x.n3-(i-1+1-(i-1))) dc n3 c3 (i-1) _ keys hcut ky6 (by omega) (by omega)) rfl ?_
  rintro _ w6 ⟨⟨ea,ec,rfl,hins⟩,hg6⟩
  have l5:=j5.grow hg6
  have l8:=j8.grow hg6
  have z6:=hg6.size
  have k7:=k6.go (Carry.grow hg6)
  have i7:=i6.grow hg6
  have b6:=b5'.trans (ButS.grow hg6)
  have p6:=p5'.grow hg6
  clear j5 j8 hg6 k6 ky6 b5' p5' i6 hcut
  repeat (first|(refine aD ?_;refine TL.pure rfl rfl ?_)|(refine aU ?_;refine bE rfl yB (by exact rfl) rfl ?_)|refine aF rfl rfl ?_|refine TL.nil ?_|refine aA ?_|refine aJ ?_|refine aC ?_|(refine aP ?_;first|(refine bP rfl rfl yB (by exact rfl) (by exact rfl) (by exact rfl) ?_;intro w' hu hbk hsz)|(refine aY rfl rfl yB (by exact rfl) (by exact rfl) (by exact rfl) ?_;intro w' hu hbk hsz))|refine bC ?_)
  rename_i w7 hu7 hb7 zu7
  have cf:Carry G3 w6 F w':=(Carry.upd hu7 (λ k hk _=>((hG3 k).1 hk).2.1)).trans ((Carry.upd hu (λ k hk _=>((hG3 k).1 hk).2.2)).trans (Carry.mono λ k hk _=>((hG3 k).1 hk).1))
  have hlts:=h.lts
  refine jC rfl (bY hbk rfl) rfl ⟨_,rfl,⟨⟨x.a1,x.n1,x.c1,ia,_,ic,ea,_,ec⟩,rfl,?_⟩,(p6.upd hu7 (by omega)).upd hu (by omega),(b6.upd hu7 (by omega)).upd hu (by omega)⟩
  rw [hre]
  exact ⟨k7.its.go cf,i7.go cf,hins.go cf⟩
 ·obtain ⟨nd0,hnd0⟩:∃ y,parts[j]? = some y:=⟨_,List.getElem?_eq_getElem (by omega)⟩
  rw [List.drop_eq_getElem_cons (by omega),show parts[j]'(by omega)=nd0 from (List.getElem?_eq_some_iff.1 hnd0).2] at hwj
  obtain ⟨pg,s1,l1,hwp,hwr,rfl⟩:=mP hwj
  obtain ⟨hokn,hnw⟩:=iI hwp
  obtain ⟨x0,hx3,hx0⟩:=hns.at' hnd0
  have hs1:=hsl.go hc1
  have hx1:=NdAt.go hx0 hc1
  have ht1:=ht.buts hbs1 h0
  repeat (first|refine aW rfl rfl rfl hlt rfl ⟨_,_,hs1⟩ rfl ?_|refine eP rfl hs1 hx3 rfl rfl ?_|(refine aB ?_;refine TL.pure rfl rfl ?_)|(refine aU ?_;refine bE rfl yB (by exact rfl) rfl ?_)|refine TL.nil ?_|refine aA ?_|refine aJ ?_|refine aC ?_|refine T.block ?_|(refine aH ?_;refine bA rfl yD rfl ?_)|(refine aP ?_;(refine aY rfl rfl yB (by exact rfl) (by exact rfl) (by exact rfl) ?_;intro w' hu hbk hsz))|(refine bD ?_;(refine TL.alloc rfl rfl ?_;intro bk w' hg hbk hsz hsz'))|refine aN rfl ?_|refine aV ?_)
  have hgg:Grow w1 w':=aZ hu (by omega) hg
  refine aL 84 ?_
  refine aI rfl (write_c (hp1.grow hgg) (ht1.grow hgg) _ x0 nd0 (hx1.go (Carry.grow hgg)) hokn (λ b hb=>lF hokn (hpb nd0 (List.mem_of_getElem? hnd0)) b hb) pg hnw) rfl ?_
  rintro _ w3 ⟨rfl,hp3,hb3⟩
  have z3:=hb3.size
  have zg:=hgg.size
  have hb53:=dC (hb5.grow hgg) hb3 n5
  have hb83:=dC (hb8.grow hgg) hb3 n8
  have hown3:w3.ownsRow W2.heap.size 3 1 _ j (cB kj):=lL (cO hown hgg) (λ k hk hv=>hb3.block k (Nat.lt_of_lt_of_le (cY hown hv).2 zg) (hSl k (by omega)))
  have hc3:∀ k,G2 k→k<W2.heap.size→w3.heap[k]? = W2.heap[k]?:=λ k hk hl=>(hb3.block k (by omega) (hFS k ((hG2 k).1 hk).1)).trans ((hgg.block k (by omega)).trans (hc1.blk k hk hl).2)
  have hbs3:=(hbs1.trans (ButS.grow hgg)).trans hb3
  clear hbk hu hg hsz hsz'
  repeat (first|(refine aB ?_;refine TL.pure rfl rfl ?_)|(refine aD ?_;refine TL.pure rfl rfl ?_)|refine TL.nil ?_|refine aA ?_|refine aJ ?_|refine aC ?_|(refine aH ?_;refine aR rfl yD rfl ?_)|refine aE rfl ?_|refine aV ?_|refine TL.pure rfl rfl ?_)
  refine TL.buildSlice rfl rfl rfl rfl rfl ?_
  intro b' wa hga hba hsa hsb hsc
  have hsl':Sl (λ _=>True) wa 1 (some ⟨b',0,none⟩) 1 1 (cB [pg]):=(bR (sz:=1) (m:=1) hba hsc (by decide)).mono (λ _ _=>trivial)
  have hga':=hga.size
  refine TL.append rfl rfl (cO hown3 hga) hsl' (ints_one [pg]) (by unfold maxLen;omega) (by omega) (by omega) rfl ?_
  intro v' wb hownb hgb _
  have zb:=hgb.size
  have kpb:∀ k,k<W2.heap.size→wb.heap[k]? = w3.heap[k]?:=λ k hk=>(hgb.block k (by omega) (λ e=>by have:=(cY hown e.symm).1;omega)).trans (hga.block k (by omega))
  repeat (first|(refine aB ?_;refine TL.pure rfl rfl ?_)|(refine aD ?_;refine TL.pure rfl rfl ?_)|(refine bJ ?_;refine bT rfl rfl (by omega) rfl ?_)|refine TL.nil ?_|refine aA ?_|refine aC ?_|refine aT ?_)
  have hlts:=h.lts
  refine bG (j+1,s1,kj++[pg],l1,v') ⟨rfl,rfl,rfl,rfl,rfl,rfl,rfl,rfl,rfl,trivial⟩ ⟨by simp only;omega,hwr,by simpa using hkr,hp3.keep (λ b hb=>kpb b (by omega)),?_,eL hb53 (kpb b5 l5'),eL hb83 (kpb b8 l8'),⟨by omega,λ k hk hl=>⟨⟨hk,hl⟩,(kpb k hl).trans (hc3 k hk hl)⟩⟩,?_⟩ (by simp only;omega)
  ·simpa [cB] using hownb
  ·exact (hbs3.trans (ButS.grow hga)).own hgb (λ k hk=>(cY hown hk).1) (by omega)
end Go.Proofs.YtfpadnmdafiddaaGreatDoor
namespace Go.Proofs.YtfpadnmdafiddaaGreatDoor
open Go Go.RowKit Go.V
theorem lower_c {w:World} {L:PL} {g g':Pg} (h:PgAt w L g) (ht:TabAt w) (h0:¬ L.S 0) (F:Nat→Prop) (hFS:∀ k,F k→¬ L.S k) (hFw:∀ k,w.heap.size≤k→F k) (x y:NV) (nd low r:Nd) (i:Nat) (hx:NdAt F w x nd) (hy:NdAt F w y low) (hbn:NdB nd) (hbl:NdB low)
  (hok:cH nd=true) (hnl:cK nd=false) (hi:i<nd.kids.length) (hl8:low.items.length≤1000∧low.kids.length≤1000∧low.keys.length≤1000) (hr:lowerP g nd i low=some (r,g')) :
  Calls Tryz.prog 82 #[.pointer (some ⟨L.p,0,none⟩),x.val,.int .i64 (i:Int),y.val] w (Ret λ v w'=>(∃ z:NV,v=.tuple #[z.val,.int .i64 0]∧NdAt F w' z r)∧PgAt w' L g'∧ButS L.S w w'):=by
 obtain ⟨nx1,nx2,nx3⟩:=hx.nums
 obtain ⟨ny1,ny2,ny3⟩:=hy.nums
 have hok':=hok
 unfold cH at hok'
 rw [if_neg (by rw [hnl];simp)] at hok'
 obtain ⟨hoi,ho2,ho8,hol,_,_⟩:=cU hok'
 have hSl:∀ k,w.heap.size≤k→¬ L.S k:=λ k hk=>by have:=h.lts;unfold PL.S;omega
 have hlts:=h.lts
 refine V.calls (args:=[_,_,_,_]) Tryz.func82 rfl Tryz.ntmps82 rfl rfl ?_
 repeat (first|(refine aD ?_;refine TL.pure rfl rfl ?_)|(refine aU ?_;refine bE rfl yB (by exact rfl) rfl ?_)|refine TL.nil ?_|refine aA ?_|refine aJ ?_|refine aC ?_|(refine bW ?_;(refine dJ rfl rfl ?_;intro bk w' hg hbk hsz hsz'))|(refine bD ?_;(refine TL.alloc rfl rfl ?_;intro bk w' hg hbk hsz hsz')))
 rename_i b5 w1 g1 k1 p1 p1' b7 w2 g2 k2 p2 p2'
 obtain ⟨b8,rfl⟩:∃ z,z=bk:=⟨bk,rfl⟩
 obtain ⟨G,hG⟩:∃ G:Nat→Prop,∀ k,G k↔F k∧k≠b5∧k≠b8:=⟨_,λ _=>Iff.rfl⟩
 have hgr0:Grow w w':=g1.trans (g2.trans hg)
 have cg:Carry F w G w':=(Carry.mono (λ k hk hl=>(hG k).2 ⟨hk,by omega,by omega⟩)).trans (Carry.grow hgr0)
 have e5:Blk w' b5 79 x.cs:=k1.grow (g2.trans hg)
 have e7:Blk w' b7 79 y.cs:=k2.grow hg
 have e8:Blk w' b8 79 nil3:=hbk
 have hx0:=hx.go cg
 have hy0:=hy.go cg
 have qb:w.heap.size=b5∧b7=b5+1∧b8=b7+1∧w'.heap.size=b8+1:=by omega
 have hGS:∀ k,G k→¬ L.S k:=λ k hk=>hFS k ((hG k).1 hk).1
 have hGF:∀ wq:World,w'.heap.size≤wq.heap.size→∀ k,wq.heap.size≤k→G k:=λ wq hq k hk=>(hG k).2 ⟨hFw k (by omega),by omega,by omega⟩
 clear hbk hg g1 g2 k1 k2 cg p1 p1' p2 p2' hsz hsz'
 obtain ⟨w0,rfl⟩:∃ z,z=w':=⟨w',rfl⟩
 unfold lowerP at hr
 by_cases h4:bK low<4
 ·rw [if_pos h4] at hr
  have h4':y.n1+y.n2<4:=by unfold bK at h4;omega
  repeat (first|(refine aB ?_;refine TL.pure rfl rfl ?_)|(refine aU ?_;refine bE rfl yB (by exact rfl) rfl ?_)|refine TL.nil ?_|refine aA ?_|refine aJ ?_|refine aC ?_|(refine aH ?_;refine bA rfl yD rfl ?_)|refine aN rfl ?_|(refine aL 83 ?_;refine aI rfl (iJ y _ (by omega) (by omega)) rfl ?_;rintro _ _ ⟨rfl,hgc⟩))
  rename_i w4
  have z4:=hgc.size
  have hgr4:=hgr0.trans hgc
  refine aL 153 ?_
  refine aI rfl (repair_c (h.grow hgr4) (ht.grow hgr4) h0 G hGS (hGF _ (by omega)) x y nd low r i (hx0.go (Carry.grow hgc)) (hy0.go (Carry.grow hgc)) hbn hbl hok hnl hi hl8 hr) rfl ?_
  rintro _ w5 ⟨⟨z,rfl,hz⟩,hp5,hb5⟩
  have f8:=dC (e8.grow hgc) hb5 (hSl _ (by omega))
  have hbs:=(ButS.grow (S:=L.S) hgr4).trans hb5
  clear e5 e7 e8 hgc
  repeat (first|(refine aD ?_;refine TL.pure rfl rfl ?_)|refine TL.nil ?_|refine aA ?_|(refine aP ?_;(refine aY rfl rfl yB (by exact rfl) (by exact rfl) (by exact rfl) ?_;intro w' hu hbk hsz))|refine bC ?_|refine bI ?_|refine TL.pure rfl rfl ?_)
  refine jC rfl (bY hbk rfl) rfl ⟨_,rfl,⟨z,rfl,?_⟩,hp5.upd hu (by omega),hbs.upd hu (by omega)⟩
  exact (hz.go (Carry.upd hu (λ k hk _=>((hG k).1 hk).2.2))).go (Carry.mono λ k hk _=>((hG k).1 hk).1)
 ·rw [if_neg h4] at hr
  have h4':¬ y.n1+y.n2<4:=by unfold bK at h4;omega
  split at hr
  ·cases hr
  rename_i pg s1 hwp
  simp only [Option.some.injEq,Prod.mk.injEq] at hr
  obtain ⟨rfl,rfl⟩:=hr
  obtain ⟨hokn,hnw⟩:=iI hwp
  repeat (first|(refine aB ?_;refine TL.pure rfl rfl ?_)|(refine aU ?_;refine bE rfl yB (by exact rfl) rfl ?_)|refine TL.nil ?_|refine aA ?_|refine aJ ?_|refine aC ?_|(refine aH ?_;refine aR rfl yD rfl ?_)|refine aE rfl ?_|refine aV ?_|(refine aL 83 ?_;refine aI rfl (iJ y _ (by omega) (by omega)) rfl ?_;rintro _ _ ⟨rfl,hgc⟩))
  rename_i w4
  have z4:=hgc.size
  have hgr4:=hgr0.trans hgc
  refine aL 84 ?_
  refine aI rfl (write_c (h.grow hgr4) (ht.grow hgr4) _ y low (hy0.go (Carry.grow hgc)) hokn (lF hokn hbl) pg hnw) rfl ?_
  rintro _ w5 ⟨rfl,hp5,hb5⟩
  have z5:=hb5.size
  have f5:=dC (e5.grow hgc) hb5 (hSl _ (by omega))
  have f8:=dC (e8.grow hgc) hb5 (hSl _ (by omega))
  have hbs:=(ButS.grow (S:=L.S) hgr4).trans hb5
  have hx5:=(hx0.go (Carry.grow hgc)).go (Carry.buts hb5 (λ k hk _=>hGS k hk))
  clear e5 e7 e8 hgc
  repeat (first|(refine aB ?_;refine TL.pure rfl rfl ?_)|(refine aD ?_;refine TL.pure rfl rfl ?_)|refine aK rfl yM rfl ?_|refine aF rfl rfl ?_|(refine bJ ?_;refine bT rfl rfl (by omega) rfl ?_)|refine TL.nil ?_|refine aA ?_|refine aJ ?_|refine aC ?_|(refine aH ?_;refine aR rfl yD rfl ?_)|refine aE rfl ?_|refine aV ?_|refine TL.pure rfl rfl ?_)
  refine aL 97 ?_
  refine aI rfl (cutN_c (F:=G) (hGF _ (by omega)) x.a2 x.n2 x.c2 i (i+1) nd.kids hx5.kids (by omega) (by omega) (by omega)) rfl ?_
  rintro _ w6 ⟨⟨ca,cc,rfl,hcut⟩,hg6⟩
  have j5:=f5.grow hg6
  have j8:=f8.grow hg6
  have z6:=hg6.size
  have k6:=hx5.go (Carry.grow hg6)
  have b6:=hbs.trans (ButS.grow hg6)
  have p6:=hp5.grow hg6
  clear f5 f8 hg6 hx5 hbs hp5
  repeat ((refine aB ?_;refine TL.pure rfl rfl ?_))
  refine TL.buildSlice rfl rfl rfl rfl rfl ?_
  intro b' wa hga hba hsa hsb hsc
  have za:=hga.size
  have hsl:Sl G wa 1 (some ⟨b',0,none⟩) 1 1 (cB [pg]):=(bR (sz:=1) (m:=1) (show Blk wa b' 3 [.int .i64 (pg:Int)] from hba) rfl (by decide)).mono (λ k hk=>by subst hk;exact (hG _).2 ⟨hFw _ (by omega),by omega,by omega⟩)
  repeat (refine aJ ?_)
  refine aL 96 ?_
  refine aI rfl (insN_c (F:=G) (hGF _ (by omega)) ca (some ⟨b',0,none⟩) (x.n2-(i+1-i)) cc 1 1 i _ [pg] (hcut.grow hga) hsl (by omega) (by omega)) rfl ?_
  rintro _ w7 ⟨⟨ia,ic,rfl,hins⟩,hg7⟩
  have hgg:=hga.trans hg7
  have l5:=j5.grow hgg
  have l8:=j8.grow hgg
  have z7:=hgg.size
  have k7:=k6.go (Carry.grow hgg)
  have b7':=b6.trans (ButS.grow hgg)
  have p7:=p6.grow hgg
  clear j5 j8 hga hg7 hgg k6 b6 p6 hsl hba hcut
  repeat (first|(refine aD ?_;refine TL.pure rfl rfl ?_)|(refine aU ?_;refine bE rfl yB (by exact rfl) rfl ?_)|refine aF rfl rfl ?_|refine TL.nil ?_|refine aA ?_|refine aJ ?_|refine aC ?_|(refine aP ?_;first|(refine bP rfl rfl yB (by exact rfl) (by exact rfl) (by exact rfl) ?_;intro w' hu hbk hsz)|(refine aY rfl rfl yB (by exact rfl) (by exact rfl) (by exact rfl) ?_;intro w' hu hbk hsz))|refine bC ?_)
  rename_i w8 hu8 hb8 zu8
  have cf:Carry G w7 F w':=(Carry.upd hu8 (λ k hk _=>((hG k).1 hk).2.1)).trans ((Carry.upd hu (λ k hk _=>((hG k).1 hk).2.2)).trans (Carry.mono λ k hk _=>((hG k).1 hk).1))
  refine jC rfl (bY hbk rfl) rfl ⟨_,rfl,⟨⟨x.a1,x.n1,x.c1,ia,_,ic,x.a3,x.n3,x.c3⟩,rfl,?_⟩,(p7.upd hu8 (by omega)).upd hu (by omega),(b7'.upd hu8 (by omega)).upd hu (by omega)⟩
  exact ⟨k7.its.go cf,hins.go cf,k7.kys.go cf⟩
end Go.Proofs.YtfpadnmdafiddaaGreatDoor
namespace Go.Proofs.YtfpadnmdafiddaaGreatDoor
open Go Go.RowKit Go.V
theorem delUp_cons {f:Nd×Nat} {r:List (Nd×Nat)} {s s2:Pg} {low2:Nd} (h:mY (f::r) s=some (low2,s2)):∃ low s1,mY r s=some (low,s1) ∧
  ((cK f.1=true∧low2 = { f.1 with items:=cL f.1.items f.2 (f.2+1) }∧s2=s1)∨(cK f.1=false∧lowerP s1 f.1 f.2 low=some (low2,s2))):=by
 unfold mY at h
 split at h
 ·cases h
 ·rename_i low s1 e
  split at h
  ·rename_i hl
   simp only [Option.some.injEq,Prod.mk.injEq] at h
   exact ⟨low,s1,e,.inl ⟨hl,h.1.symm,h.2.symm⟩⟩
  ·rename_i hl
   exact ⟨low,s1,e,.inr ⟨by simpa using hl,h⟩⟩
theorem delUp_suffix {s:Pg}:∀ {l:List (Nd×Nat)} {up:Nd} {s1:Pg},mY l s=some (up,s1)→∀ k,∃ up' s',mY (l.drop k) s=some (up',s')
 | [],up,s1,h,k=>by rw [List.drop_nil];exact ⟨up,s1,h⟩
 | f::r,up,s1,h,0=>⟨up,s1,h⟩
 | f::r,up,s1,h,k+1=>by
  obtain ⟨u,s2,h2,_⟩:=delUp_cons h
  exact delUp_suffix h2 k
structure LowOk (low:Nd):Prop where
 sz:low.items.length≤100∧low.kids.length≤100∧low.keys.length≤100
 by':NdB low
theorem mendN_len (sib low:Nd) (i:Nat) (key:Bs):(gX sib low i key).1.length≤2∧(gX sib low i key).2.length≤1:=by
 unfold gX
 simp only
 split
 ·simp
 ·split<;>simp
theorem lowerP_ok {s s':Pg} {n low r:Nd} {i:Nat} (h:lowerP s n i low=some (r,s')) (hs:PgB s) (hok:cH n=true) (hl:cK n=false) (hi:i<n.kids.length) (hb:NdB n) (hlow:LowOk low):LowOk r:=by
 unfold cH at hok
 rw [if_neg (by rw [hl];simp)] at hok
 obtain ⟨h1,h2,h8,h4,_,_⟩:=cU hok
 unfold lowerP at h
 split at h
 ·obtain ⟨k,sib,kids,hk,hsib,_,hw,rfl⟩:=repairP_parts h
  have hkl:=kP (s:=s) hw
  obtain ⟨m1,m2⟩:=mendN_len sib low i (n.keys.getD (i-1) [])
  obtain ⟨_,b2⟩:=mendN_by (i:=i) (key:=n.keys.getD (i-1) []) (nodeP_by hs hsib) hlow.by' (getD_by hb.2 _)
  refine ⟨?_,spliceN_by hb b2⟩
  unfold mB
  simp only [dE,cL,List.length_append,List.length_take,List.length_drop]
  rw [h1]
  simp only [List.length_nil]
  omega
 ·split at h
  ·cases h
  ·rename_i p s1 e
   simp only [Option.some.injEq,Prod.mk.injEq] at h
   obtain ⟨rfl,rfl⟩:=h
   refine ⟨?_,hb.1,hb.2⟩
   simp only [dE,cL,List.length_append,List.length_take,List.length_drop,List.length_cons,List.length_nil]
   rw [h1]
   simp only [List.length_nil]
   omega
theorem delP_some {s s':Pg} {fr:List (Nd×Nat)} {root:Option Nat} (h:delP s fr=some (root,s')):∃ low s1,mY fr s=some (low,s1) ∧
  ((bK low=0∧root=none∧s1=s')∨(bK low≠0∧∃ r,root=some r∧((low.kids=[r]∧s1=s')∨(low.kids.length≠1∧fU s1 low=some (r,s'))))):=by
 unfold delP at h
 split at h
 ·cases h
 ·rename_i low s1 e
  refine ⟨low,s1,e,?_⟩
  split at h
  ·rename_i h0
   simp only [Option.some.injEq,Prod.mk.injEq] at h
   exact .inl ⟨h0,h.1.symm,h.2⟩
  ·rename_i h0
   refine .inr ⟨h0,?_⟩
   split at h
   ·rename_i k hk
    simp only [Option.some.injEq,Prod.mk.injEq] at h
    exact ⟨k,h.1.symm,.inl ⟨hk,h.2⟩⟩
   ·rename_i hk
    split at h
    ·cases h
    ·rename_i p s2 e2
     simp only [Option.some.injEq,Prod.mk.injEq] at h
     obtain ⟨rfl,rfl⟩:=h
     refine ⟨p,rfl,.inr ⟨λ hl=>?_,e2⟩⟩
     match hkk:low.kids,hl with
     | [k],_=>exact hk k hkk
theorem delete_c {w:World} {L:PL} {g g':Pg} (h:PgAt w L g) (ht:TabAt w) (h0:¬ L.S 0) (n:Nat) (a:Option Addr) (m c:Nat) (key:Bs) (hk:Sl (λ k=>¬ L.S k) w 1 a m c (cX key)) (hko:dR key=true) (hsp:32≤cP g) (fr:List (Nd×Nat)) (hp:hZ g key 16 n=some (fr,true)) (root:Option Nat) (hdel:delP g fr=some (root,g')) :
  Calls Tryz.prog 19 #[.pointer (some ⟨L.p,0,none⟩),.int .i64 (n:Int),.slice a m c] w (Ret λ u w'=>u=.tuple #[.int .i64 (dD root),.int .i64 0]∧PgAt w' L g'∧ButS L.S w w'):=by
 have hSl:∀ k,w.heap.size≤k→¬ L.S k:=λ k hk=>by have:=h.lts;unfold PL.S;omega
 have hcn:=h.cnt
 have hnlt:n<g.count:=by
  obtain ⟨_,_,_,hn,_⟩:=hX hp
  exact eF (eQ hn)
 obtain ⟨low,s1,hdu,hend⟩:=delP_some hdel
 have hfok:=pathP_frames (λ n=>h.lt n) hp
 have hflen:=pathP_len hp
 refine V.calls (args:=[_,_,_]) Tryz.func19 rfl Tryz.ntmps19 rfl rfl ?_
 repeat (first|(refine aB ?_;refine TL.pure rfl rfl ?_)|refine aK rfl yM rfl ?_|refine TL.nil ?_|refine aA ?_|refine aJ ?_|refine aC ?_|(refine bW ?_;(refine TL.box rfl rfl rfl ?_;intro bk w' hg hbk hsz hsz'))|(refine bD ?_;(refine TL.alloc rfl rfl ?_;intro bk w' hg hbk hsz hsz')))
 rename_i b3 w1 g1 k1 p1 p1' b6 w2 g2 k2 p2 p2'
 obtain ⟨b7,rfl⟩:∃ y,y=bk:=⟨bk,rfl⟩
 refine aL 77 ?_
 have hg3:Grow w w':=g1.trans (g2.trans hg)
 refine aI rfl (tready_c (h.grow hg3) (n:Int) (by omega) (by omega) _ (λ _=>True) a none m c 0 0 key [] (hk.grow hg3) ⟨by simp [cX],Nat.le_refl _,Nat.zero_le _,λ _=>rfl,by simp [Row,cX]⟩ hko rfl hsp) rfl ?_
 rintro _ w4 ⟨rfl,hg4⟩
 have k3:=(k1.grow (g2.trans hg)).grow hg4
 have k6:=(k2.grow hg).grow hg4
 have k7:=hbk.grow hg4
 have hgw:=hg3.trans hg4
 have q:b3=w.heap.size∧b6=b3+1∧b7=b6+1∧b7<w4.heap.size:=by have:=k7.lt;omega
 clear hbk hg hg3 hg4 k1 k2 g1 g2 hsz hsz' p1 p1' p2 p2'
 repeat (first|(refine aB ?_;refine TL.pure rfl rfl ?_)|(refine aD ?_;refine TL.pure rfl rfl ?_)|refine aK rfl yM rfl ?_|refine TL.nil ?_|refine aA ?_|refine aJ ?_|refine aC ?_|(refine aH ?_;refine aR rfl yD rfl ?_)|refine aE rfl ?_|refine aV ?_)
 refine aL 78 ?_
 refine aI rfl (path_c (h.grow hgw) _ a m c n key fr true (hk.grow hgw) hp) rfl ?_
 rintro _ w6 ⟨⟨fb,fd,fcs,rfl,hfs,hfc⟩,hg6⟩
 have hgw6:=hgw.trans hg6
 have z6:=hg6.size
 have zw:=hgw.size
 replace k3:=k3.grow hg6
 replace k6:=k6.grow hg6
 replace k7:=k7.grow hg6
 clear hgw hg6
 repeat (first|refine T.seqR ?_|(refine aB ?_;refine TL.pure rfl rfl ?_)|(refine aD ?_;refine TL.pure rfl rfl ?_)|refine aK rfl yM rfl ?_|refine TL.nil ?_|refine aA ?_|refine aJ ?_|refine aC ?_|(refine aH ?_;refine aR rfl yD rfl ?_)|(refine aP ?_;(refine bP rfl rfl yB (by exact rfl) (by exact rfl) (by exact rfl) ?_;intro w' hu hbk hsz))|(refine bD ?_;(refine TL.alloc rfl rfl ?_;intro bk w' hg hbk hsz hsz'))|refine aE rfl ?_|refine aV ?_|refine TL.pure rfl rfl ?_)
 rename_i b11 w11 g11 k11 p11 p11' ws ks zs
 obtain ⟨b12,rfl⟩:∃ y,y=bk:=⟨bk,rfl⟩
 have hW0:Grow w w':=(aZ hu (by omega) (hgw6.trans g11)).trans hg
 have j3:=((k3.grow g11).upd hu (by omega)).grow hg
 have j6:=((k6.grow g11).upd hu (by omega)).grow hg
 have j7:=((k7.grow g11).upd hu (by omega)).grow hg
 have j11:Blk w' b11 37 [.int .i64 0]:=Blk.grow hg ks
 have j12:Blk w' b12 79 nil3:=hbk
 have cW:Carry (λ k=>w4.heap.size≤k) w6 (λ k=>w4.heap.size≤k∧k<w6.heap.size) w' :=
  (Carry.mono (λ k hk hl=>⟨hk,hl⟩)).trans ((Carry.grow g11).trans ((Carry.upd hu (λ k hk _=>by omega)).trans (Carry.grow hg)))
 replace hfs:=hfs.go cW
 replace hfc:=hfc.go cW
 have qs:w6.heap.size=b11∧b12=b11+1∧w'.heap.size=b12+1:=by omega
 clear cW hbk hg hu ks k11 g11 hsz hsz' k3 k6 k7 p11 p11' zs hgw6
 refine aL 79 ?_
 refine aI rfl (back_c fb fr.length fd _) rfl ?_
 rintro _ w9 ⟨b1,rfl,hb1s,hb1,hg9⟩
 repeat (refine TL.nil ?_)
 refine mQ (T2.range (ps:=[40,41]) (lb:=[_]) rfl (Nat.zero_le _) rfl ?_)
 intro rc W hli hsW hgW hlW hDW
 obtain ⟨D,hD⟩:∃ D,D=w9.heap.size:=⟨_,rfl⟩
 rw [← hD] at hlW hDW hsW ⊢
 have hb1l:=hb1.lt
 have z9:=hg9.size
 replace j3:=(j3.grow hg9).grow hgW
 replace j6:=(j6.grow hg9).grow hgW
 replace j7:=(j7.grow hg9).grow hgW
 replace j11:=(j11.grow hg9).grow hgW
 replace j12:=(j12.grow hg9).grow hgW
 replace hb1:=hb1.grow hgW
 obtain ⟨Gu,hGu⟩:∃ G:Nat→Prop,∀ k,G k↔¬ L.S k∧k≠b12∧k≠b11∧k≠D+1:=⟨_,λ k=>Iff.rfl⟩
 have hGn:∀ k,w.heap.size≤k→k≠b12→k≠b11→k≠D+1→Gu k:=λ k hk h1 h2 h3=>(hGu k).2 ⟨hSl k hk,h1,h2,h3⟩
 replace hfs:Sl Gu W 4 fb fr.length fd fcs:=(hfs.grow (hg9.trans hgW)).mono (λ k hk=>hGn k (by omega) (by omega) (by omega) (by omega))
 replace hfc:FrCells Gu W fcs fr:=hfc.go ((Carry.grow (hg9.trans hgW)).trans (Carry.mono λ k hk _=>hGn k (by omega) (by omega) (by omega) (by omega)))
 have hgrW:Grow w W:=hW0.trans (hg9.trans hgW)
 have hlts:=h.lts
 have ht00:=ht.1
 have hpW:=h.grow hgrW
 clear hgW hg9 hW0
 refine Calls.mono (backs_c Gu (D+1) b1 fr.length fb fd fcs (λ k w1=>∃ low1 g1,∃ y:NV,mY (fr.drop k) g=some (low1,g1)∧LowOk low1∧Blk w1 b12 79 y.cs∧Blk w1 b11 37 [.int .i64 0] ∧
  w1.heap[D+1]? = some (.loop (rc .ready none))∧Carry Gu W (λ k=>Gu k∧k<W.heap.size) w1∧NdAt Gu w1 y low1∧PgAt w1 L g1∧ButS L.S w w1) (λ _=>False) (by omega) ?_ ?_ W ?_) ?_
 ·rintro k w1 ⟨low1,g1,y,e1,e2,e12,e11,el,ec,en,ep,eb⟩
  exact ⟨eL hb1 (ec.blk b1 (hGn _ (by omega) (by omega) (by omega) (by omega)) (by omega)).2,(hfs.go ec).mono (λ k hk=>hk.1)⟩
 ·rintro k w1 hkl ⟨low1,g1,y,e1,e2,e12,e11,el,ec,en,ep,eb⟩
  obtain ⟨f,hf⟩:∃ f,fr[k]? = some f:=⟨_,List.getElem?_eq_getElem hkl⟩
  obtain ⟨x,hx4,hx⟩:=hfc.at' hf
  rw [hx4]
  have fo:=hfok f (List.mem_of_getElem? hf)
  have z1:=ec.size
  have hx1:NdAt Gu w1 x f.1:=(hx.go ec).go (Carry.mono λ k hk _=>hk.1)
  refine yld_of hli el rfl rfl λ I=>?_
  repeat (first|refine TL.nil ?_|refine aC ?_|(refine aP ?_;(refine aY rfl rfl yB (by exact rfl) (by exact rfl) (by exact rfl) ?_;intro w' hu hbk hsz))|(refine bD ?_;(refine TL.alloc rfl rfl ?_;intro bk w' hg hbk hsz hsz')))
  refine ⟨?_,λ w2 hu2 hl2=>?_⟩
  ·rw [hu.block (D+1) (by omega),hg.block (D+1) (by omega)];exact el
  obtain ⟨bf,rfl⟩:∃ z,z=bk:=⟨bk,rfl⟩
  have z2:=hu2.size
  have keepb:∀ k,k<w1.heap.size→k≠D+1→w2.heap[k]? = w1.heap[k]?:=λ k h1 h2=>(hu2.block k h2).trans ((hu.block k (by omega)).trans (hg.block k h1))
  have gk:∀ k,w.heap.size≤k→k≠b12→k≠b11→k≠D+1→k<W.heap.size→w2.heap[k]? = W.heap[k]?:=λ k h1 h2 h3 h4 h5=>(keepb k (by omega) h4).trans (ec.blk k (hGn k h1 h2 h3 h4) h5).2
  have gkU:∀ k,Gu k→k<W.heap.size→w2.heap[k]? = W.heap[k]?:=λ k hk hl=>(keepb k (by omega) ((hGu k).1 hk).2.2.2).trans (ec.blk k hk hl).2
  have gf:Blk w2 bf 143 [x.v1,x.v2,x.v3,.int .i64 (f.2:Int)]:=Blk.upd hu2 (by omega) hbk
  have f12:=eL e12 (keepb b12 (by omega) (by omega))
  have f11:=eL e11 (keepb b11 (by omega) (by omega))
  have f3:=eL j3 (gk b3 (by omega) (by omega) (by omega) (by omega) (by omega))
  have cc:Carry Gu w1 Gu w2:=⟨by omega,λ k hk hl=>⟨hk,keepb k hl ((hGu k).1 hk).2.2.2⟩⟩
  have hx2:=hx1.go cc
  have en2:=en.go cc
  have ep2:=ep.keep (λ b hb=>keepb b (by omega) (by omega))
  have eb2:ButS L.S w w2:=((eb.trans (ButS.grow hg)).upd hu (by omega)).upd hu2 (by omega)
  have qf:w1.heap.size=bf∧w2.heap.size=bf+1:=by omega
  rw [List.drop_eq_getElem_cons hkl,show fr[k]'hkl=f from (List.getElem?_eq_some_iff.1 hf).2]
  clear hbk hg hu hu2 hsz hsz' cc e12 e11 el ec en ep eb hx hx1 hli j3 j6 j7 j11 j12 hb1 hfs hfc keepb
  obtain ⟨low2,g2,hpk⟩:=delUp_suffix hdu k
  rw [List.drop_eq_getElem_cons hkl,show fr[k]'hkl=f from (List.getElem?_eq_some_iff.1 hf).2] at hpk
  obtain ⟨low',g1',e1',hor⟩:=delUp_cons hpk
  rw [e1] at e1'
  simp only [Option.some.injEq,Prod.mk.injEq] at e1'
  obtain ⟨rfl,rfl⟩:=e1'
  have hnx:=hx2.nums
  obtain ⟨hnx1,hnx2,hnx3⟩:=hnx
  rcases hor with ⟨hlf,rfl,rfl⟩|⟨hlf,hlo⟩
  ·obtain ⟨hle,hlt⟩:=fo.leaf hlf
   have hlt':=hlt rfl
   have hok:=fo.ok
   unfold cH at hok
   rw [if_pos hlf] at hok
   obtain ⟨hoi,ho8,_⟩:=dL hok
   repeat (first|(refine aU ?_;first|refine aK rfl yM rfl ?_|refine bE rfl yB (by exact rfl) rfl ?_|refine lY rfl yB (by exact rfl) (by exact rfl) rfl ?_)|refine aF rfl rfl ?_|(refine bJ ?_;refine bT rfl rfl (by omega) rfl ?_)|refine TL.nil ?_|refine aA ?_|refine aJ ?_|refine aC ?_|refine T.block ?_|(refine aP ?_;(refine aY rfl rfl yB (by exact rfl) (by exact rfl) (by exact rfl) ?_;intro w' hu hbk hsz))|(refine bD ?_;(refine TL.alloc rfl rfl ?_;intro bk w' hg hbk hsz hsz'))|refine aN rfl ?_|(refine aL 80 ?_;refine aI rfl (eX hx2 hlf _) rfl ?_;rintro _ _ ⟨rfl,hgc⟩))
   rename_i w3
   obtain ⟨bn,rfl⟩:∃ z,z=bk:=⟨bk,rfl⟩
   have gn:Blk w3 bn 79 x.cs:=Blk.grow hgc hbk
   have hg23:Grow w2 w3:=(aZ hu (by omega) hg).trans hgc
   have z23:=hg23.size
   obtain ⟨Gq,hGq⟩:∃ G:Nat→Prop,∀ k,G k↔Gu k∧k≠bn:=⟨_,λ k=>Iff.rfl⟩
   have cq:Carry Gu w2 Gq w3:=(Carry.mono (λ k hk hl=>(hGq k).2 ⟨hk,by omega⟩)).trans (Carry.grow hg23)
   have hx3:=hx2.go cq
   have zc:=hgc.size
   have qn:w2.heap.size=bn∧bn<w3.heap.size:=by omega
   have i12:=f12.grow hg23
   have i11:=f11.grow hg23
   have hl3:w3.heap[D+1]? = some (.loop (rc .busy none)):=(hg23.block _ (by omega)).trans hl2
   clear hbk hg hgc hu hsz hsz' cq f12 f11 hl2 hx2
   refine aL 81 ?_
   refine aI rfl (cutI_c (F:=Gq) (λ k hk=>(hGq k).2 ⟨hGn k (by omega) (by omega) (by omega) (by omega),by omega⟩) x.a1 x.n1 x.c1 f.2 (f.2+1) f.1.items hx3.its (by omega) (by omega) (by omega)) rfl ?_
   rintro _ w4' ⟨⟨ca,cc,rfl,hcut⟩,hg4⟩
   have hg24:=hg23.trans hg4
   have l12:=i12.grow hg4
   have l11:=i11.grow hg4
   have gn4:=gn.grow hg4
   have hx4':=hx3.go (Carry.grow hg4)
   have hl4:w4'.heap[D+1]? = some (.loop (rc .busy none)):=(hg4.block _ (by omega)).trans hl3
   have z4:=hg4.size
   clear i12 i11 gn hx3 hl3 hg4 hg23
   repeat (first|(refine aU ?_;refine bE rfl yB (by exact rfl) rfl ?_)|refine aF rfl rfl ?_|refine TL.nil ?_|refine aA ?_|refine aC ?_|refine aT ?_|(refine aP ?_;first|(refine bP rfl rfl yB (by exact rfl) (by exact rfl) (by exact rfl) ?_;intro w' hu hbk hsz)|(refine aY rfl rfl yB (by exact rfl) (by exact rfl) (by exact rfl) ?_;intro w' hu hbk hsz)))
   rename_i w5 hu5 hb5 zu5
   have hlow2:LowOk { f.1 with items:=cL f.1.items f.2 (f.2+1) }:=by
    refine ⟨⟨?_,?_,?_⟩,⟨λ q hq=>fo.by'.1 q (gC hq),fo.by'.2⟩⟩
    ·simp only [eD (show f.2≤f.2+1 by omega) (show f.2+1≤f.1.items.length by omega)];omega
    ·rw [dK] at hlf;simp only [hlf];simp
    ·simp only [hoi];simp
   refine ⟨?_,λ wz huz hlz=>.inl ⟨rfl,_,_,⟨ca,_,cc,x.a2,x.n2,x.c2,x.a3,x.n3,x.c3⟩,hpk,hlow2,hbk.upd huz (by omega),?_,hlz,?_,?_,?_,?_⟩⟩
   ·rw [hu.block _ (by omega),hu5.block _ (by omega)];exact hl4
   ·exact ((l11.upd hu5 (by omega)).upd hu (by omega)).upd huz (by omega)
   ·refine ⟨by have:=hu5.size;have:=hu.size;have:=huz.size;omega,λ k hk hl=>⟨⟨hk,hl⟩,?_⟩⟩
    obtain ⟨c1,c2,c3,c4⟩:=(hGu k).1 hk
    rw [huz.block k c4,hu.block k c2,hu5.block k (by omega),hg24.block k (by omega)]
    exact gkU k hk hl
   ·have cz:Carry Gq w4' Gu wz:=(Carry.upd hu5 (λ k hk _=>((hGq k).1 hk).2)).trans ((Carry.upd hu (λ k hk _=>((hGu k).1 ((hGq k).1 hk).1).2.1)).trans ((Carry.upd huz (λ k hk _=>((hGu k).1 ((hGq k).1 hk).1).2.2.2)).trans (Carry.mono λ k hk _=>((hGq k).1 hk).1)))
    exact ⟨hcut.go cz,hx4'.kids.go cz,hx4'.kys.go cz⟩
   ·exact (((ep2.grow hg24).upd hu5 (by omega)).upd hu (by omega)).upd huz (by omega)
   ·exact (((eb2.trans (ButS.grow hg24)).upd hu5 (by omega)).upd hu (by omega)).upd huz (by omega)
  ·have hki:=fo.kid hlf
   have hlow2:=lowerP_ok hlo (λ n=>ep2.lt n) fo.ok hlf hki fo.by' e2
   repeat (first|(refine aU ?_;first|refine aK rfl yM rfl ?_|refine bE rfl yB (by exact rfl) rfl ?_|refine lY rfl yB (by exact rfl) (by exact rfl) rfl ?_)|refine aF rfl rfl ?_|refine TL.nil ?_|refine aA ?_|refine aJ ?_|refine aC ?_|refine T.block ?_|(refine aP ?_;(refine aY rfl rfl yB (by exact rfl) (by exact rfl) (by exact rfl) ?_;intro w' hu hbk hsz))|(refine bD ?_;(refine TL.alloc rfl rfl ?_;intro bk w' hg hbk hsz hsz'))|refine aE rfl ?_|(refine aL 80 ?_;refine aI rfl (eX hx2 hlf _) rfl ?_;rintro _ _ ⟨rfl,hgc⟩))
   rename_i w3
   obtain ⟨bn,rfl⟩:∃ z,z=bk:=⟨bk,rfl⟩
   have gn:Blk w3 bn 79 x.cs:=Blk.grow hgc hbk
   have hg23:Grow w2 w3:=(aZ hu (by omega) hg).trans hgc
   have z23:=hg23.size
   obtain ⟨Gq,hGq⟩:∃ G:Nat→Prop,∀ k,G k↔Gu k∧k≠bn:=⟨_,λ k=>Iff.rfl⟩
   have cq:Carry Gu w2 Gq w3:=(Carry.mono (λ k hk hl=>(hGq k).2 ⟨hk,by omega⟩)).trans (Carry.grow hg23)
   have hx3:=hx2.go cq
   have en3:=en2.go cq
   have zc:=hgc.size
   have qn:w2.heap.size=bn∧bn<w3.heap.size:=by omega
   have i12:=f12.grow hg23
   have i11:=f11.grow hg23
   have hl3:w3.heap[D+1]? = some (.loop (rc .busy none)):=(hg23.block _ (by omega)).trans hl2
   clear hbk hg hgc hu hsz hsz' cq f12 f11 hl2 hx2 en2
   refine aL 82 ?_
   refine aI rfl (lower_c (ep2.grow hg23) ((ht.buts eb2 h0).grow hg23) h0 Gq (λ k hk=>((hGu k).1 ((hGq k).1 hk).1).1) (λ k hk=>(hGq k).2 ⟨hGn k (by omega) (by omega) (by omega) (by omega),by omega⟩) x y f.1 low1 low2 f.2 hx3 en3 fo.by' e2.by' fo.ok hlf hki (by have:=e2.sz;omega) hlo) rfl ?_
   rintro _ w4' ⟨⟨z,rfl,hz⟩,hp4,hb4⟩
   have z4:=hb4.size
   have l12:=dC i12 hb4 (hSl _ (by omega))
   have l11:=dC i11 hb4 (hSl _ (by omega))
   have gn4:=dC gn hb4 (hSl _ (by omega))
   have hl4:w4'.heap[D+1]? = some (.loop (rc .busy none)):=(hb4.block _ (by omega) (hSl _ (by omega))).trans hl3
   clear i12 i11 gn hx3 en3 hl3
   repeat (first|(refine aB ?_;refine TL.pure rfl rfl ?_)|(refine aU ?_;first|refine aK rfl yM rfl ?_|refine bE rfl yB (by exact rfl) rfl ?_)|refine TL.nil ?_|refine aA ?_|refine aJ ?_|refine aC ?_|refine aT ?_|(refine aH ?_;refine aR rfl yD rfl ?_)|(refine aP ?_;first|(refine bP rfl rfl yB (by exact rfl) (by exact rfl) (by exact rfl) ?_;intro w' hu hbk hsz)|(refine aY rfl rfl yB (by exact rfl) (by exact rfl) (by exact rfl) ?_;intro w' hu hbk hsz))|refine aE rfl ?_|refine aV ?_|refine TL.pure rfl rfl ?_)
   rename_i w5 hu5 hb5 zu5 w6' hu6 hb6 zu6
   refine ⟨?_,λ wz huz hlz=>.inl ⟨rfl,low2,g2,z,hpk,hlow2,hbk.upd huz (by omega),?_,hlz,?_,?_,?_,?_⟩⟩
   ·rw [hu.block _ (by omega),hu6.block _ (by omega),hu5.block _ (by omega)];exact hl4
   ·exact (hb6.upd hu (by omega)).upd huz (by omega)
   ·refine ⟨by have:=hu5.size;have:=hu6.size;have:=hu.size;have:=huz.size;omega,λ k hk hl=>⟨⟨hk,hl⟩,?_⟩⟩
    obtain ⟨c1,c2,c3,c4⟩:=(hGu k).1 hk
    rw [huz.block k c4,hu.block k c2,hu6.block k c3,hu5.block k (by omega),hb4.block k (by omega) c1,hg23.block k (by omega)]
    exact gkU k hk hl
   ·have cz:Carry Gq w4' Gu wz:=(Carry.upd hu5 (λ k hk _=>((hGq k).1 hk).2)).trans ((Carry.upd hu6 (λ k hk _=>((hGu k).1 ((hGq k).1 hk).1).2.2.1)).trans ((Carry.upd hu (λ k hk _=>((hGu k).1 ((hGq k).1 hk).1).2.1)).trans ((Carry.upd huz (λ k hk _=>((hGu k).1 ((hGq k).1 hk).1).2.2.2)).trans (Carry.mono λ k hk _=>((hGq k).1 hk).1))))
    exact hz.go cz
   ·exact (((hp4.upd hu5 (by omega)).upd hu6 (by omega)).upd hu (by omega)).upd huz (by omega)
   ·exact (((((eb2.trans (ButS.grow hg23)).trans hb4).upd hu5 (by omega)).upd hu6 (by omega)).upd hu (by omega)).upd huz (by omega)
 ·exact ⟨nd0,g,⟨none,0,0,none,0,0,none,0,0⟩,by rw [List.drop_length];rfl,⟨⟨by decide,by decide,by decide⟩,by simp [nd0],by simp [nd0]⟩,j12,j11,hlW,Carry.mono (λ k hk hl=>⟨hk,hl⟩),⟨jU,jT,jF⟩,hpW,ButS.grow hgrW⟩
 ·rintro _ w1 ⟨u,rfl,⟨low1,g1,y,e1,e2,e12,e11,el,ec,en,ep,eb⟩|hf⟩
  rotate_left
  ·exact hf.elim
  rw [List.drop_zero,hdu] at e1
  simp only [Option.some.injEq,Prod.mk.injEq] at e1
  obtain ⟨rfl,rfl⟩:=e1
  refine ⟨u,rfl,?_,.inl ⟨el,λ I w2 hu2=>?_⟩⟩
  ·rw [(ec.blk D (hGn _ (by omega) (by omega) (by omega) (by omega)) (by omega)).2];exact hDW
  ·have hul:=hu2.size
   have zec:=ec.size
   have gu:∀ k,w.heap.size≤k→k≠b12→k≠b11→k≠D+1→k<W.heap.size→w2.heap[k]? = W.heap[k]?:=λ k h1 h2 h3 h4 h5=>(hu2.block k h4).trans (ec.blk k (hGn k h1 h2 h3 h4) h5).2
   have f12:=e12.upd hu2 (by omega)
   have f6:=eL j6 (gu b6 (by omega) (by omega) (by omega) (by omega) (by omega))
   have f7:=eL j7 (gu b7 (by omega) (by omega) (by omega) (by omega) (by omega))
   have f3:=eL j3 (gu b3 (by omega) (by omega) (by omega) (by omega) (by omega))
   have fD:w2.heap[D]? = some (.deferred (some [])):=(gu D (by omega) (by omega) (by omega) (by omega) (by omega)).trans hDW
   have fn:=en.go (Carry.upd (F:=Gu) hu2 (λ k hk _=>((hGu k).1 hk).2.2.2))
   have fp:=ep.upd hu2 (by omega)
   have fb2:ButS L.S w w2:=eb.upd hu2 (by omega)
   obtain ⟨hn1,hn2,hn3⟩:=fn.nums
   have hls:=e2.sz
   clear e12 e11 el ec en ep eb hu2 hli j3 j6 j7 j11 j12 hb1 hfs hfc
   rcases hend with ⟨hs0,rfl,rfl⟩|⟨hs0,r,rfl,⟨hk1,rfl⟩|⟨hk1,hwp⟩⟩
   ·have hs0':y.n1+y.n2=0:=by unfold bK at hs0;omega
    repeat (first|(refine aD ?_;refine TL.pure rfl rfl ?_)|(refine aU ?_;refine bE rfl yB (by exact rfl) rfl ?_)|refine TL.nil ?_|refine aA ?_|refine aJ ?_|refine aC ?_|refine T.block ?_|(refine aH ?_;refine bA rfl yD rfl ?_)|(refine aP ?_;(refine bP rfl rfl yB (by exact rfl) (by exact rfl) (by exact rfl) ?_;intro w' hu hbk hsz))|refine aN rfl ?_|refine bC ?_|refine bI ?_|refine dB ?_|(refine aL 83 ?_;refine aI rfl (iJ y _ (by omega) (by omega)) rfl ?_;rintro _ _ ⟨rfl,hgc⟩))
    rename_i wc w7 hu7 hb7 z7
    have zc:=hgc.size
    refine ⟨?_,λ wz huz=>?_⟩
    ·rw [hu.block D (by omega),hu7.block D (by omega),hgc.block D (by omega)];exact fD
    ·refine retCC rfl (dP ((hb7.upd hu (by omega)).upd huz (by omega))) rfl (dP (hbk.upd huz (by omega))) ⟨_,rfl,rfl,?_,(((fb2.trans (ButS.grow hgc)).upd hu7 (by omega)).upd hu (by omega)).upd huz (by omega)⟩
     exact (((fp.grow hgc).upd hu7 (by omega)).upd hu (by omega)).upd huz (by omega)
   ·have hs0':y.n1+y.n2≠0:=by unfold bK at hs0;omega
    have hy2:y.n2=1:=by rw [hn2,hk1];rfl
    have hsk:=fn.kids
    rw [hk1] at hsk
    repeat (first|(refine aD ?_;refine TL.pure rfl rfl ?_)|(refine aU ?_;first|refine aK rfl yM rfl ?_|refine bE rfl yB (by exact rfl) rfl ?_)|refine aF rfl rfl ?_|refine TL.nil ?_|refine aA ?_|refine aJ ?_|refine aC ?_|refine T.block ?_|(refine aH ?_;first|refine bA rfl yD rfl ?_|refine aR rfl yD rfl ?_)|refine aO rfl rfl ?_|refine aN rfl ?_|refine aE rfl ?_|(refine aL 83 ?_;refine aI rfl (iJ y _ (by omega) (by omega)) rfl ?_;rintro _ _ ⟨rfl,hgc⟩))
    rename_i wc
    have zc:=hgc.size
    have hskc:=hsk.grow hgc
    have hcx:wc.cell? (at' y.a2 0)=some (.int .i64 (r:Int)):=hskc.row.cell rfl
    have fDc:wc.heap[D]? = some (.deferred (some [])):=(hgc.block D (by omega)).trans fD
    have fpc:=fp.grow hgc
    have fbc:=fb2.trans (ButS.grow hgc)
    repeat (first|(refine bF ?_;refine aW (j:=0) rfl rfl rfl (by omega) rfl ⟨_,_,hskc⟩ rfl ?_)|refine aK rfl yM rfl ?_|refine TL.nil ?_|refine aA ?_|(refine aP ?_;(refine bP rfl rfl yB (by exact rfl) (by exact rfl) (by exact rfl) ?_;intro w' hu hbk hsz))|refine bC ?_|refine bI ?_|refine dB ?_)
    rename_i w7 hu7 hb7 z7
    refine ⟨?_,λ wz huz=>?_⟩
    ·rw [hu.block D (by omega),hu7.block D (by omega)];exact fDc
    ·refine retCC rfl (dP ((hb7.upd hu (by omega)).upd huz (by omega))) rfl (dP (hbk.upd huz (by omega))) ⟨_,rfl,rfl,?_,((fbc.upd hu7 (by omega)).upd hu (by omega)).upd huz (by omega)⟩
     exact ((fpc.upd hu7 (by omega)).upd hu (by omega)).upd huz (by omega)
   ·have hs0':y.n1+y.n2≠0:=by unfold bK at hs0;omega
    have hy2:y.n2≠1:=by rw [hn2];exact hk1
    obtain ⟨hok,hnw⟩:=iI hwp
    repeat (first|(refine aD ?_;refine TL.pure rfl rfl ?_)|(refine aU ?_;first|refine aK rfl yM rfl ?_|refine bE rfl yB (by exact rfl) rfl ?_)|refine aF rfl rfl ?_|refine TL.nil ?_|refine aA ?_|refine aJ ?_|refine aC ?_|refine T.block ?_|refine aT ?_|(refine aH ?_;refine aR rfl yD rfl ?_)|refine aO rfl rfl ?_|refine aE rfl ?_|refine aV ?_|(refine aL 83 ?_;refine aI rfl (iJ y _ (by omega) (by omega)) rfl ?_;rintro _ _ ⟨rfl,hgc⟩))
    rename_i wc
    have zc:=hgc.size
    have fDc:wc.heap[D]? = some (.deferred (some [])):=(hgc.block D (by omega)).trans fD
    have fpc:=fp.grow hgc
    have fbc:=fb2.trans (ButS.grow hgc)
    refine aL 84 ?_
    refine aI rfl (write_c fpc (ht.buts fbc h0) _ y low (fn.go (Carry.grow hgc)) hok (lF hok e2.by') r hnw) rfl ?_
    rintro _ w6' ⟨rfl,hp6,hb6⟩
    have f6':=dC (f6.grow hgc) hb6 (hSl _ (by omega))
    have f7':=dC (f7.grow hgc) hb6 (hSl _ (by omega))
    have fD':w6'.heap[D]? = some (.deferred (some [])):=(hb6.block D (by omega) (hSl _ (by omega))).trans fDc
    have zz:=hb6.size
    clear f6 f7 f12 f3 hgc
    repeat (first|refine TL.nil ?_|refine aA ?_|(refine aP ?_;(refine bP rfl rfl yB (by exact rfl) (by exact rfl) (by exact rfl) ?_;intro w' hu hbk hsz))|refine bC ?_|refine TL.pure rfl rfl ?_)
    rename_i w7 hu7 hb7 z7
    refine ⟨?_,λ wz huz=>?_⟩
    ·rw [hu.block D (by omega),hu7.block D (by omega)];exact fD'
    ·refine retCC rfl (dP ((hb7.upd hu (by omega)).upd huz (by omega))) rfl (dP (hbk.upd huz (by omega))) ⟨_,rfl,rfl,?_,(((fbc.trans hb6).upd hu7 (by omega)).upd hu (by omega)).upd huz (by omega)⟩
     exact ((hp6.upd hu7 (by omega)).upd hu (by omega)).upd huz (by omega)
end Go.Proofs.YtfpadnmdafiddaaGreatDoor
namespace Go.V
open Go Go.RowKit
theorem bV [Rn] {P:Program} {n:Nat} {l:List Oper} {e:dN} {I:World→Prop} {vs:List Value} {i:Nat} {o:Oper} {v:Value} {e':dN} (ho:l[i]? = some o) (hv:vs.getD i undef=v) (he:iX l vs (kQ (cD o)) e=e')
  (h:∀ w,I w→TL P n l.toArray [o] e' w (detQ o.dst v I)):Det P n l e I vs i:=by
 unfold Det
 rw [ho]
 simp only
 intro w hw
 subst he
 rw [hv]
 exact h w hw
end Go.V
namespace Go.Proofs.YtfpadnmdafiddaaGreatDoor
open Go Go.RowKit Go.V
instance:MapTy Tryz.prog 224 3 228:=⟨by kernel_rfl⟩
abbrev PtC (t:Part) (x:NV) (lo hi:Value):List Value:=[.slice x.a1 x.n1 x.c1,.slice x.a2 x.n2 x.c2,.slice x.a3 x.n3 x.c3,.int .i64 (t.levels:Int),lo,hi]
abbrev PtV (t:Part) (x:NV) (lo hi:Value):Value:=.agg #[.slice x.a1 x.n1 x.c1,.slice x.a2 x.n2 x.c2,.slice x.a3 x.n3 x.c3,.int .i64 (t.levels:Int),lo,hi]
structure PtAt (G:Nat→Prop) (w:World) (t:Part) (x:NV) (lo hi:Value):Prop where
 nd:NdAt G w x t.node
 lo:BsAt G w lo t.low
 hi:BsAt G w hi t.high
 ok:cH t.node=true
theorem PtAt.go {F F':Nat→Prop} {w w':World} {t:Part} {x:NV} {lo hi:Value} (h:PtAt F w t x lo hi) (g:Carry F w F' w'):PtAt F' w' t x lo hi:=⟨h.nd.go g,h.lo.go g,h.hi.go g,h.ok⟩
def MemAt (G:Nat→Prop) (w:World) (m:Nat) (M:eN):Prop:=∃ f,MapF w m f∧(∀ n,fH M n=none→f n=none)∧∀ n t,fH M n=some t→∃ x lo hi,f n=some (PtV t x lo hi)∧PtAt G w t x lo hi
theorem MemAt.go {F F':Nat→Prop} {w w':World} {m:Nat} {M:eN} (h:MemAt F w m M) (g:Carry F w F' w') (hm:w'.heap[m]? = w.heap[m]?):MemAt F' w' m M:=by
 obtain ⟨f,h1,h2,h3⟩:=h
 refine ⟨f,h1.keep hm,h2,λ n t ht=>?_⟩
 obtain ⟨x,lo,hi,e,hp⟩:=h3 n t ht
 exact ⟨x,lo,hi,e,hp.go g⟩
theorem MemAt.lt {F:Nat→Prop} {w:World} {m:Nat} {M:eN} (h:MemAt F w m M):m<w.heap.size:=by
 obtain ⟨f,h1,_⟩:=h
 exact h1.lt
theorem getM_cons (n k:Nat) (t:Part) (M:eN):fH ((n,t)::M) k=if k=n then some t else fH M k:=by
 unfold fH
 rw [List.find?_cons]
 by_cases h:k=n
 ·subst h;simp
 ·rw [if_neg h]
  have:(n==k)=false:=by simp;omega
  simp [this]
def PartC (L:PL) (g:Pg) (b m f:Nat):Prop:=∀ (w:World) (G:Nat→Prop) (M M':eN) (n:Nat) (t:Part),PgAt w L g→Blk w b 226 [.pointer (some ⟨L.p,0,none⟩),.map (some m)]→MemAt G w m M→(∀ k,G k→k≠m)→(∀ k,w.heap.size≤k→G k)→n<4294967296 →
 kN g f n M=some (t,M')→Calls Tryz.prog 156 #[.pointer (some ⟨b,0,none⟩),.int .i64 (n:Int),.int .i64 ((17-f:Nat):Int)] w (Ret λ v w'=>(∃ x lo hi,v=.tuple #[PtV t x lo hi,.int .i64 0]∧PtAt G w' t x lo hi)∧MemAt G w' m M'∧ButS (λ k=>k=m) w w')
def BranchC (L:PL) (g:Pg) (b m f:Nat):Prop:=∀ (w:World) (G:Nat→Prop) (M M':eN) (x:NV) (nd:Nd) (t:Part),PgAt w L g→Blk w b 226 [.pointer (some ⟨L.p,0,none⟩),.map (some m)]→MemAt G w m M→(∀ k,G k→k≠m)→(∀ k,w.heap.size≤k→G k)→NdAt G w x nd→cH nd=true→cK nd=false →
 lN (kN g f) nd nd.kids 0 ⟨nd,0,[],[]⟩ M=some (t,M')→Calls Tryz.prog 196 #[.pointer (some ⟨b,0,none⟩),x.val,.int .i64 ((16-f:Nat):Int)] w (Ret λ v w'=>(∃ x lo hi,v=.tuple #[PtV t x lo hi,.int .i64 0]∧PtAt G w' t x lo hi)∧MemAt G w' m M'∧ButS (λ k=>k=m) w w')
theorem partP_hit {s:Pg} {f n:Nat} {M:eN} {t:Part} (h:fH M n=some t):kN s f n M=some (t,M):=by
 unfold kN;rw [h]
theorem partP_new {s:Pg} {f n:Nat} {M M':eN} {t:Part} (h0:fH M n=none) (h:kN s f n M=some (t,M')):∃ f' nd,f=f'+1∧dQ s n=some nd ∧
  ((cK nd=true∧t=fG nd∧M'=(n,fG nd)::M)∨(cK nd=false∧∃ M1,lN (kN s f') nd nd.kids 0 ⟨nd,0,[],[]⟩ M=some (t,M1)∧M'=(n,t)::M1)):=by
 unfold kN at h
 rw [h0] at h
 simp only at h
 cases f with
 | zero=>cases h
 | succ f =>
  simp only at h
  split at h
  ·cases h
  ·rename_i nd hn
   refine ⟨f,nd,rfl,hn,?_⟩
   split at h
   ·rename_i hl
    simp only [Option.some.injEq,Prod.mk.injEq] at h
    exact .inl ⟨hl,h.1.symm,h.2.symm⟩
   ·rename_i hl
    split at h
    ·cases h
    ·rename_i t' m1 e
     simp only [Option.some.injEq,Prod.mk.injEq] at h
     obtain ⟨rfl,rfl⟩:=h
     exact .inr ⟨by simpa using hl,m1,e,rfl⟩
theorem part_of {L:PL} {g:Pg} {b m f:Nat} (hf:f≤16) (hbm:b≠m∧m≠L.p∧m≠L.d∧m≠L.u∧m≠L.m) (hB:∀ f',f=f'+1→BranchC L g b m f'):PartC L g b m f:=by
 intro w G M M' n t h hbw hM hGm hGw hn hpt
 obtain ⟨fm,hmf,hm0,hm1⟩:=id hM
 have hml:=hmf.lt
 have hbl:=hbw.lt
 have hlts:=h.lts
 refine V.calls (args:=[_,_,_]) Tryz.func156 rfl Tryz.ntmps156 rfl rfl ?_
 refine fJ 7 (λ e W=>∃ (b6 b12:Nat) (x:NV) (lo hi:Value) (G1:Nat→Prop) (M1:eN),Sub [(12,.pointer (some ⟨b12,0,none⟩)),(6,.pointer (some ⟨b6,0,none⟩)),(1,.int .i64 (n:Int)),(0,.pointer (some ⟨b,0,none⟩))] e ∧
  (∀ k,G1 k↔G k∧k≠b6)∧MemAt G1 W m M1∧M'=(n,t)::M1∧PtAt G1 W t x lo hi∧lo.oneCell'=true∧hi.oneCell'=true∧Blk W b12 228 (PtC t x lo hi)∧Blk W b6 228 [.slice none 0 0,.slice none 0 0,.slice none 0 0,.int .i64 0,.slice none 0 0,.slice none 0 0]∧ButS (λ k=>k=m) w W∧w.heap.size≤b6∧w.heap.size≤b12∧b6≠b12) ?_ ?_
 rotate_left
 ·cases hg0:fH M n with
  | some t0 =>
   rw [partP_hit hg0] at hpt
   simp only [Option.some.injEq,Prod.mk.injEq] at hpt
   obtain ⟨rfl,rfl⟩:=hpt
   obtain ⟨x,lo,hi,hfn,hpa⟩:=hm1 n t0 hg0
   obtain ⟨la,lc,rfl,hls⟩:=hpa.lo.sl
   obtain ⟨ha,hc,rfl,hhs⟩:=hpa.hi.sl
   repeat (first|(refine kI ?_;refine TL.lookupYes rfl rfl (hmf.grow hg) hfn (by omega) rfl ?_)|(refine aB ?_;refine TL.pure rfl rfl ?_)|(refine aD ?_;refine TL.pure rfl rfl ?_)|(refine aU ?_;first|refine aK rfl yM rfl ?_|refine bE rfl yB (by exact rfl) rfl ?_)|refine aF rfl rfl ?_|refine TL.nil ?_|refine aA ?_|refine aJ ?_|refine aC ?_|(refine aP ?_;(refine aY rfl rfl yB (by exact rfl) (by exact rfl) (by exact rfl) ?_;intro w' hu hbk hsz))|(refine bD ?_;(refine TL.alloc rfl rfl ?_;intro bk w' hg hbk hsz hsz'))|refine bL rfl rfl ?_|refine aN rfl ?_|refine bC ?_|refine TL.pure rfl rfl ?_|refine bH ?_|refine cQ ?_|refine mS ?_)
   rename_i b6 w1 g1 k1 p1 p1' w2 k2 p2 w3 u3 k3 z3
   have hgr:Grow w w':=aZ hu (by omega) (aZ u3 (by omega) (g1.trans hg))
   exact jC rfl (bY hbk rfl) rfl ⟨_,rfl,⟨x,_,_,rfl,hpa.go (Carry.grow hgr)⟩,hM.go (Carry.grow hgr) (hgr.block m hml),ButS.grow hgr⟩
  | none =>
   obtain ⟨f',nd,rfl,hnp,hor⟩:=partP_new hg0 hpt
   rw [show 17-(f'+1)=16-f' by omega]
   have hu:=eQ hnp
   have hnlt:=eF hu
   have hcn:=h.cnt
   have hok:=iO hnp
   have hrd:gB (g.body n)=some nd:=by unfold dQ at hnp;rw [if_pos hu] at hnp;exact hnp
   repeat (first|(refine kI ?_;refine TL.lookupNo rfl rfl (hmf.grow hg) (hm0 n hg0) (by omega) rfl ?_)|(refine aB ?_;refine TL.pure rfl rfl ?_)|(refine aD ?_;refine TL.pure rfl rfl ?_)|refine aK rfl yM rfl ?_|refine aF rfl rfl ?_|refine TL.nil ?_|refine aA ?_|refine aJ ?_|refine aC ?_|(refine aH ?_;refine aR rfl yD rfl ?_)|(refine aP ?_;(refine aY rfl rfl yB (by exact rfl) (by exact rfl) (by exact rfl) ?_;intro w' hu hbk hsz))|(refine bD ?_;(refine TL.alloc rfl rfl ?_;intro bk w' hg hbk hsz hsz'))|refine bL rfl rfl ?_|refine aE rfl ?_|refine aV ?_|refine TL.pure rfl rfl ?_|refine bH ?_|refine cQ ?_)
   rename_i b6 w1 g1 k1 p1 p1' w2 k2 p2
   have hgr:Grow w w':=aZ hu (by omega) (g1.trans hg)
   have e6:Blk w' b6 228 [.slice none 0 0,.slice none 0 0,.slice none 0 0,.int .i64 0,.slice none 0 0,.slice none 0 0]:=(k1.grow hg).upd hu (by omega)
   have q6:w.heap.size=b6∧b6<w'.heap.size:=by have:=hu.size;omega
   clear hbk hu hg g1 k1 k2
   obtain ⟨w0,rfl⟩:∃ z,z=w':=⟨w',rfl⟩
   refine aL 127 ?_
   refine aI rfl (node_c (h.grow hgr) n (by omega) (eQ hnp)) rfl ?_
   rintro _ w3 ⟨hv,hg3⟩
   rw [hrd] at hv
   obtain ⟨x,rfl,hnd⟩:=hv
   have z3:=hg3.size
   obtain ⟨G1,hG1⟩:∃ G1:Nat→Prop,∀ k,G1 k↔G k∧k≠b6:=⟨_,λ _=>Iff.rfl⟩
   have hnd3:NdAt G1 w3 x nd:=hnd.go (Carry.mono λ k hk _=>(hG1 k).2 ⟨hGw k (by omega),by omega⟩)
   have hgr3:=hgr.trans hg3
   have hM3:MemAt G1 w3 m M:=hM.go ((Carry.mono (λ k hk hl=>(hG1 k).2 ⟨hk,by omega⟩)).trans (Carry.grow hgr3)) (hgr3.block m hml)
   have f6:=e6.grow hg3
   have fw:=hbw.grow hgr3
   obtain ⟨nn1,nn2,nn3⟩:=hnd3.nums
   clear hnd e6 hg3 hgr
   obtain ⟨w3',rfl⟩:∃ z,z=w3:=⟨w3,rfl⟩
   rcases hor with ⟨hl,rfl,rfl⟩|⟨hl,M1,hkp,rfl⟩
   ·have hok2:=hok
    unfold cH at hok2
    rw [if_pos hl] at hok2
    obtain ⟨_,ho8,_⟩:=dL hok2
    by_cases hempty:nd.items.length=0
    ·repeat (first|(refine aB ?_;refine TL.pure rfl rfl ?_)|(refine aD ?_;refine TL.pure rfl rfl ?_)|(refine aU ?_;first|refine aK rfl yM rfl ?_|refine bE rfl yB (by exact rfl) rfl ?_)|refine aF rfl rfl ?_|refine TL.nil ?_|refine aA ?_|refine aJ ?_|refine aC ?_|(refine aH ?_;refine aR rfl yD rfl ?_)|(refine aP ?_;(refine aY rfl rfl yB (by exact rfl) (by exact rfl) (by exact rfl) ?_;intro w' hu hbk hsz))|(refine bD ?_;(refine TL.alloc rfl rfl ?_;intro bk w' hg hbk hsz hsz'))|refine TL.build rfl rfl rfl ?_|refine aO rfl rfl ?_|refine aN rfl ?_|refine aE rfl ?_|refine aV ?_|refine TL.pure rfl rfl ?_|refine bH ?_|refine cQ ?_|refine cR ?_|(refine aL 80 ?_;refine aI rfl (eX hnd3 hl _) rfl ?_;rintro _ _ ⟨rfl,hgc⟩))
     rename_i b10 w4 g4 k4 p4 p4' w5 u5 k5 z5 w6 k6 p6 w7
     obtain ⟨b12,rfl⟩:∃ z,z=bk:=⟨bk,rfl⟩
     have hgr7:Grow w w7:=(aZ hu (by omega) ((aZ u5 (by omega) (hgr3.trans g4)).trans hg)).trans hgc
     have c7:Grow w3' w7:=(aZ hu (by omega) ((aZ u5 (by omega) g4).trans hg)).trans hgc
     have z7:=c7.size
     have q12:w3'.heap.size=b10∧b12=b10+1∧b12<w7.heap.size:=by have:=hgc.size;have:=hu.size;omega
     have f10:Blk w7 b10 79 x.cs:=((Blk.grow hg k5).upd hu (by omega)).grow hgc
     have f12:Blk w7 b12 228 [.slice x.a1 x.n1 x.c1,.slice x.a2 x.n2 x.c2,.slice x.a3 x.n3 x.c3,.int .i64 1,.slice none 0 0,.slice none 0 0]:=Blk.grow hgc hbk
     have f6':=f6.grow c7
     have fw':=fw.grow c7
     obtain ⟨G2,hG2⟩:∃ G2:Nat→Prop,∀ k,G2 k↔G1 k∧k≠b12:=⟨_,λ _=>Iff.rfl⟩
     have cg:Carry G1 w3' G2 w7:=(Carry.mono (λ k hk hl=>(hG2 k).2 ⟨hk,by omega⟩)).trans (Carry.grow c7)
     have hnd7:=hnd3.go cg
     have hM7:=hM3.go cg (c7.block m (by have:=hM3.lt;omega))
     have cgo:∀ wz:World,Carry G2 wz G1 wz:=λ wz=>Carry.mono λ k hk _=>((hG2 k).1 hk).1
     clear hbk hu hg hgc g4 u5 k4 k5 k6 f6 fw c7 cg hnd3 hM3
     have e0:nd.items=[]:=List.eq_nil_of_length_eq_zero hempty
     have hbn:BsAt G1 w7 (.slice none 0 0) []:=⟨_,_,_,rfl,by simp [cX],Nat.le_refl _,Nat.zero_le _,λ _=>rfl,by simp [Row,cX]⟩
     exact ⟨b6,b12,x,.slice none 0 0,.slice none 0 0,G1,M,⟨rfl,rfl,rfl,rfl,trivial⟩,hG1,hM7.go (cgo _) rfl,rfl,⟨hnd7.go (cgo _),(by simp only [fG,e0];exact hbn),(by simp only [fG,e0];exact hbn),hok⟩,rfl,rfl,f12,f6',ButS.grow hgr7,by omega,by omega,by omega⟩
    ·repeat (first|(refine aB ?_;refine TL.pure rfl rfl ?_)|(refine aD ?_;refine TL.pure rfl rfl ?_)|(refine aU ?_;first|refine aK rfl yM rfl ?_|refine bE rfl yB (by exact rfl) rfl ?_)|refine aF rfl rfl ?_|refine TL.nil ?_|refine aA ?_|refine aJ ?_|refine aC ?_|(refine aH ?_;first|refine bA rfl yD rfl ?_|refine aR rfl yD rfl ?_)|(refine aP ?_;(refine aY rfl rfl yB (by exact rfl) (by exact rfl) (by exact rfl) ?_;intro w' hu hbk hsz))|(refine bD ?_;(refine TL.alloc rfl rfl ?_;intro bk w' hg hbk hsz hsz'))|refine TL.build rfl rfl rfl ?_|refine aO rfl rfl ?_|refine aN rfl ?_|refine aE rfl ?_|refine aV ?_|refine TL.pure rfl rfl ?_|refine bH ?_|refine cQ ?_|(refine aL 80 ?_;refine aI rfl (eX hnd3 hl _) rfl ?_;rintro _ _ ⟨rfl,hgc⟩))
     rename_i b10 w4 g4 k4 p4 p4' w5 u5 k5 z5 w6 k6 p6 w7
     obtain ⟨b12,rfl⟩:∃ z,z=bk:=⟨bk,rfl⟩
     have hgr7:Grow w w7:=(aZ hu (by omega) ((aZ u5 (by omega) (hgr3.trans g4)).trans hg)).trans hgc
     have c7:Grow w3' w7:=(aZ hu (by omega) ((aZ u5 (by omega) g4).trans hg)).trans hgc
     have z7:=c7.size
     have q12:w3'.heap.size=b10∧b12=b10+1∧b12<w7.heap.size:=by have:=hgc.size;have:=hu.size;omega
     have f10:Blk w7 b10 79 x.cs:=((Blk.grow hg k5).upd hu (by omega)).grow hgc
     have f12:Blk w7 b12 228 [.slice x.a1 x.n1 x.c1,.slice x.a2 x.n2 x.c2,.slice x.a3 x.n3 x.c3,.int .i64 1,.slice none 0 0,.slice none 0 0]:=Blk.grow hgc hbk
     have f6':=f6.grow c7
     have fw':=fw.grow c7
     obtain ⟨G2,hG2⟩:∃ G2:Nat→Prop,∀ k,G2 k↔G1 k∧k≠b12:=⟨_,λ _=>Iff.rfl⟩
     have cg:Carry G1 w3' G2 w7:=(Carry.mono (λ k hk hl=>(hG2 k).2 ⟨hk,by omega⟩)).trans (Carry.grow c7)
     have hnd7:=hnd3.go cg
     have hM7:=hM3.go cg (c7.block m (by have:=hM3.lt;omega))
     have cgo:∀ wz:World,Carry G2 wz G1 wz:=λ wz=>Carry.mono λ k hk _=>((hG2 k).1 hk).1
     clear hbk hu hg hgc g4 u5 k4 k5 k6 f6 fw c7 cg hnd3 hM3
     obtain ⟨y0,hy0⟩:∃ y,nd.items[0]? = some y:=⟨_,List.getElem?_eq_getElem (by omega)⟩
     obtain ⟨y1,hy1⟩:∃ y,nd.items[x.n1-1]? = some y:=⟨_,List.getElem?_eq_getElem (by omega)⟩
     obtain ⟨cs,hcs,hcc⟩:=hnd7.its.ex
     obtain ⟨kv0,vv0,a0,a1,hb0,_⟩:=hcc.at' hy0
     obtain ⟨kv1,vv1,b0,b1,hb1,_⟩:=hcc.at' hy1
     obtain ⟨k0a,k0c,rfl,_⟩:=hb0.sl
     obtain ⟨k1a,k1c,rfl,_⟩:=hb1.sl
     rw [Nat.mul_comm] at b0
     apply T.detA 16 15 [.pointer (some ⟨b10,0,none⟩),.slice x.a1 x.n1 x.c1,.pointer (some (at' x.a1 0)),.pointer (some (at' x.a1 0)),(.slice k0a y0.1.length k0c),.pointer (some ⟨b10,0,none⟩),.slice x.a1 x.n1 x.c1,.pointer (some ⟨b10,0,none⟩),.slice x.a1 x.n1 x.c1,.int .i64 (x.n1:Int),.int .i64 ((x.n1-1:Nat):Int),.pointer (some (at' x.a1 ((x.n1-1)*2))),.pointer (some (at' x.a1 ((x.n1-1)*2))),(.slice k1a y1.1.length k1c),.pointer (some ⟨b12,4,none⟩),undef]
      (λ q w1=>Blk w1 b10 79 x.cs∧Blk w1 b12 228 [.slice x.a1 x.n1 x.c1,.slice x.a2 x.n2 x.c2,.slice x.a3 x.n3 x.c3,.int .i64 1,(if q then (.slice k0a y0.1.length k0c) else .slice none 0 0),.slice none 0 0]∧Blk w1 b6 228 [.slice none 0 0,.slice none 0 0,.slice none 0 0,.int .i64 0,.slice none 0 0,.slice none 0 0]∧Carry G2 w7 G2 w1∧Grow w w1∧w1.heap[m]? = w7.heap[m]?)
     ·rfl
     ·exact λ w1 h1=>⟨f10.grow h1,f12.grow h1,f6'.grow h1,Carry.grow h1,hgr7.trans h1,h1.block m (by omega)⟩
     ·clear f10 f12 f6'
      repeat' (first|exact iF|refine gQ ?_ ?_)
      ·refine cI rfl rfl rfl ?_
       rintro q wq _ ⟨i10,i12,i6,ic,ig,im⟩
       repeat (first|refine aF rfl rfl ?_|refine TL.nil ?_)
       refine bB rfl ?_
       rw [show (q || Nat.beq 0 15)=q from Bool.or_false q]
       exact ⟨i10,i12,i6,ic,ig,im⟩
      ·refine cI rfl rfl rfl ?_
       rintro q wq _ ⟨i10,i12,i6,ic,ig,im⟩
       repeat (first|refine aK rfl yM rfl ?_|refine TL.nil ?_)
       refine bB rfl ?_
       rw [show (q || Nat.beq 1 15)=q from Bool.or_false q]
       exact ⟨i10,i12,i6,ic,ig,im⟩
      ·refine cI rfl rfl rfl ?_
       rintro q wq _ ⟨i10,i12,i6,ic,ig,im⟩
       repeat (first|(refine bF ?_;refine aW (j:=0) rfl rfl rfl (by omega) rfl ⟨_,_,hcs.go ic⟩ rfl ?_)|refine TL.nil ?_)
       refine bB rfl ?_
       rw [show (q || Nat.beq 2 15)=q from Bool.or_false q]
       exact ⟨i10,i12,i6,ic,ig,im⟩
      ·refine cI rfl rfl rfl ?_
       rintro q wq _ ⟨i10,i12,i6,ic,ig,im⟩
       repeat (first|(refine gR ?_;refine gS (o:=0) rfl (hcs.go ic) a0 rfl ?_)|refine TL.nil ?_)
       refine bB rfl ?_
       rw [show (q || Nat.beq 3 15)=q from Bool.or_false q]
       exact ⟨i10,i12,i6,ic,ig,im⟩
      ·refine cI rfl rfl rfl ?_
       rintro q wq _ ⟨i10,i12,i6,ic,ig,im⟩
       have hcx:wq.cell? (at' x.a1 0)=some (.slice k0a y0.1.length k0c):=(hcs.go ic).row.cell a0
       repeat (first|refine aK rfl yM rfl ?_|refine TL.nil ?_)
       refine bB rfl ?_
       rw [show (q || Nat.beq 4 15)=q from Bool.or_false q]
       exact ⟨i10,i12,i6,ic,ig,im⟩
      ·refine cI rfl rfl rfl ?_
       rintro q wq _ ⟨i10,i12,i6,ic,ig,im⟩
       repeat (first|refine aF rfl rfl ?_|refine TL.nil ?_)
       refine bB rfl ?_
       rw [show (q || Nat.beq 5 15)=q from Bool.or_false q]
       exact ⟨i10,i12,i6,ic,ig,im⟩
      ·refine cI rfl rfl rfl ?_
       rintro q wq _ ⟨i10,i12,i6,ic,ig,im⟩
       repeat (first|refine aK rfl yM rfl ?_|refine TL.nil ?_)
       refine bB rfl ?_
       rw [show (q || Nat.beq 6 15)=q from Bool.or_false q]
       exact ⟨i10,i12,i6,ic,ig,im⟩
      ·refine cI rfl rfl rfl ?_
       rintro q wq _ ⟨i10,i12,i6,ic,ig,im⟩
       repeat (first|refine aF rfl rfl ?_|refine TL.nil ?_)
       refine bB rfl ?_
       rw [show (q || Nat.beq 7 15)=q from Bool.or_false q]
       exact ⟨i10,i12,i6,ic,ig,im⟩
      ·refine cI rfl rfl rfl ?_
       rintro q wq _ ⟨i10,i12,i6,ic,ig,im⟩
       repeat (first|refine aK rfl yM rfl ?_|refine TL.nil ?_)
       refine bB rfl ?_
       rw [show (q || Nat.beq 8 15)=q from Bool.or_false q]
       exact ⟨i10,i12,i6,ic,ig,im⟩
      ·refine cI rfl rfl rfl ?_
       rintro q wq _ ⟨i10,i12,i6,ic,ig,im⟩
       repeat (first|refine TL.nil ?_|refine aO rfl rfl ?_)
       refine bB rfl ?_
       rw [show (q || Nat.beq 9 15)=q from Bool.or_false q]
       exact ⟨i10,i12,i6,ic,ig,im⟩
      ·refine cI rfl rfl rfl ?_
       rintro q wq _ ⟨i10,i12,i6,ic,ig,im⟩
       repeat (first|(refine cJ ?_;refine dI rfl rfl (by omega) (by omega) rfl ?_)|refine TL.nil ?_)
       refine bB rfl ?_
       rw [show (q || Nat.beq 10 15)=q from Bool.or_false q]
       exact ⟨i10,i12,i6,ic,ig,im⟩
      ·refine cI rfl rfl rfl ?_
       rintro q wq _ ⟨i10,i12,i6,ic,ig,im⟩
       repeat (first|(refine bF ?_;refine aW (j:=x.n1-1) rfl rfl rfl (by omega) rfl ⟨_,_,hcs.go ic⟩ rfl ?_)|refine TL.nil ?_)
       refine bB rfl ?_
       rw [show (q || Nat.beq 11 15)=q from Bool.or_false q]
       exact ⟨i10,i12,i6,ic,ig,im⟩
      ·refine cI rfl rfl rfl ?_
       rintro q wq _ ⟨i10,i12,i6,ic,ig,im⟩
       repeat (first|(refine gR ?_;refine gS (o:=(x.n1-1)*2) rfl (hcs.go ic) b0 rfl ?_)|refine TL.nil ?_)
       refine bB rfl ?_
       rw [show (q || Nat.beq 12 15)=q from Bool.or_false q]
       exact ⟨i10,i12,i6,ic,ig,im⟩
      ·refine cI rfl rfl rfl ?_
       rintro q wq _ ⟨i10,i12,i6,ic,ig,im⟩
       have hcx:wq.cell? (at' x.a1 ((x.n1-1)*2))=some (.slice k1a y1.1.length k1c):=(hcs.go ic).row.cell b0
       repeat (first|refine aK rfl yM rfl ?_|refine TL.nil ?_)
       refine bB rfl ?_
       rw [show (q || Nat.beq 13 15)=q from Bool.or_false q]
       exact ⟨i10,i12,i6,ic,ig,im⟩
      ·refine cI rfl rfl rfl ?_
       rintro q wq _ ⟨i10,i12,i6,ic,ig,im⟩
       repeat (first|refine aF rfl rfl ?_|refine TL.nil ?_)
       refine bB rfl ?_
       rw [show (q || Nat.beq 14 15)=q from Bool.or_false q]
       exact ⟨i10,i12,i6,ic,ig,im⟩
      ·refine cI rfl rfl rfl ?_
       rintro q wq hb ⟨i10,i12,i6,ic,ig,im⟩
       obtain rfl:=hb rfl
       have i12':Blk wq b12 228 [.slice x.a1 x.n1 x.c1,.slice x.a2 x.n2 x.c2,.slice x.a3 x.n3 x.c3,.int .i64 1,.slice none 0 0,.slice none 0 0]:=i12
       clear i12
       repeat (first|refine TL.nil ?_|(refine aP ?_;(refine bP rfl rfl yB (by exact rfl) (by exact rfl) (by exact rfl) ?_;intro w' hu hbk hsz)))
       exact iD ⟨i10.upd hu (by omega),hbk,i6.upd hu (by omega),ic.trans (Carry.upd hu (λ k hk _=>((hG2 k).1 hk).2)),aZ hu (by omega) ig,(hu.block m (by omega)).trans im⟩
     ·rintro w8 ⟨i10,i12,i6,ic,ig,im⟩
      have i12':Blk w8 b12 228 [.slice x.a1 x.n1 x.c1,.slice x.a2 x.n2 x.c2,.slice x.a3 x.n3 x.c3,.int .i64 1,(.slice k0a y0.1.length k0c),.slice none 0 0]:=i12
      have z8:=ic.size
      clear i12 f12 f10 f6'
      repeat (first|refine aF rfl rfl ?_|refine TL.nil ?_|(refine aP ?_;(refine bP rfl rfl yB (by exact rfl) (by exact rfl) (by exact rfl) ?_;intro w' hu hbk hsz))|refine bH ?_|refine cR ?_)
      have cz:Carry G2 w7 G1 w':=(ic.trans (Carry.upd hu (λ k hk _=>((hG2 k).1 hk).2))).trans (cgo _)
      refine ⟨b6,b12,x,(.slice k0a y0.1.length k0c),(.slice k1a y1.1.length k1c),G1,M,⟨rfl,rfl,rfl,rfl,trivial⟩,hG1,hM7.go cz ((hu.block m (by omega)).trans im),rfl,⟨hnd7.go cz,?_,?_,hok⟩,rfl,rfl,hbk,i6.upd hu (by omega),ButS.grow (aZ hu (by omega) ig),by omega,by omega,by omega⟩
      ·have:=hb0.go cz
       simp only [fG,List.getD_eq_getElem?_getD,hy0]
       exact this
      ·have:=hb1.go cz
       rw [nn1] at hy1
       simp only [fG,List.getD_eq_getElem?_getD,hy1]
       exact this
   ·repeat (first|(refine aB ?_;refine TL.pure rfl rfl ?_)|(refine aD ?_;refine TL.pure rfl rfl ?_)|(refine aU ?_;refine bE rfl yB (by exact rfl) rfl ?_)|refine TL.nil ?_|refine aA ?_|refine aJ ?_|refine aC ?_|(refine aH ?_;refine aR rfl yD rfl ?_)|(refine aP ?_;(refine aY rfl rfl yB (by exact rfl) (by exact rfl) (by exact rfl) ?_;intro w' hu hbk hsz))|(refine bD ?_;(refine TL.alloc rfl rfl ?_;intro bk w' hg hbk hsz hsz'))|refine TL.build rfl rfl rfl ?_|refine aE rfl ?_|refine aV ?_|refine TL.pure rfl rfl ?_|refine bH ?_|refine cQ ?_|(refine aL 80 ?_;refine aI rfl (eX hnd3 hl _) rfl ?_;rintro _ _ ⟨rfl,hgc⟩))
    rename_i b10 w4 g4 k4 p4 p4' w5 u5 k5 z5 w6 k6 p6 w7
    obtain ⟨b12,rfl⟩:∃ z,z=bk:=⟨bk,rfl⟩
    have hgr7:Grow w w7:=(aZ hu (by omega) ((aZ u5 (by omega) (hgr3.trans g4)).trans hg)).trans hgc
    have c7:Grow w3' w7:=(aZ hu (by omega) ((aZ u5 (by omega) g4).trans hg)).trans hgc
    have z7:=c7.size
    have q12:w3'.heap.size=b10∧b12=b10+1∧b12<w7.heap.size:=by have:=hgc.size;have:=hu.size;omega
    have f10:Blk w7 b10 79 x.cs:=((Blk.grow hg k5).upd hu (by omega)).grow hgc
    have f12:Blk w7 b12 228 [.slice x.a1 x.n1 x.c1,.slice x.a2 x.n2 x.c2,.slice x.a3 x.n3 x.c3,.int .i64 1,.slice none 0 0,.slice none 0 0]:=Blk.grow hgc hbk
    have f6':=f6.grow c7
    have fw':=fw.grow c7
    obtain ⟨G2,hG2⟩:∃ G2:Nat→Prop,∀ k,G2 k↔G1 k∧k≠b12:=⟨_,λ _=>Iff.rfl⟩
    have cg:Carry G1 w3' G2 w7:=(Carry.mono (λ k hk hl=>(hG2 k).2 ⟨hk,by omega⟩)).trans (Carry.grow c7)
    have hnd7:=hnd3.go cg
    have hM7:=hM3.go cg (c7.block m (by have:=hM3.lt;omega))
    have cgo:∀ wz:World,Carry G2 wz G1 wz:=λ wz=>Carry.mono λ k hk _=>((hG2 k).1 hk).1
    clear hbk hu hg hgc g4 u5 k4 k5 k6 f6 fw c7 cg hnd3 hM3
    refine aL 196 ?_
    refine aI rfl (hB f' rfl w7 G2 M M1 x nd t (h.grow hgr7) fw' hM7 (λ k hk=>hGm k ((hG1 k).1 ((hG2 k).1 hk).1).1) (λ k hk=>(hG2 k).2 ⟨(hG1 k).2 ⟨hGw k (by have:=hgr7.size;omega),by omega⟩,by omega⟩) hnd7 hok hl hkp) rfl ?_
    rintro _ w8 ⟨⟨x',lo,hi,rfl,hpa⟩,hM8,hbs8⟩
    have z8:=hbs8.size
    obtain ⟨la,lc,rfl,hls⟩:=hpa.lo.sl
    obtain ⟨ha,hc,rfl,hhs⟩:=hpa.hi.sl
    have l12:=dC f12 hbs8 (by omega)
    have l6:=dC f6' hbs8 (by omega)
    clear f10 f12 f6' fw'
    repeat (first|(refine aB ?_;refine TL.pure rfl rfl ?_)|(refine aD ?_;refine TL.pure rfl rfl ?_)|refine TL.nil ?_|refine aA ?_|refine aJ ?_|refine aC ?_|(refine aH ?_;refine aR rfl yD rfl ?_)|(refine aP ?_;(refine aY rfl rfl yB (by exact rfl) (by exact rfl) (by exact rfl) ?_;intro w' hu hbk hsz))|refine aE rfl ?_|refine aV ?_|refine TL.pure rfl rfl ?_|refine bH ?_|refine cR ?_)
    have cz:Carry G2 w8 G1 w':=(Carry.upd hu (λ k hk _=>((hG2 k).1 hk).2)).trans (cgo _)
    exact ⟨b6,b12,x',_,_,G1,M1,⟨rfl,rfl,rfl,rfl,trivial⟩,hG1,hM8.go cz (hu.block m (by omega)),rfl,hpa.go cz,rfl,rfl,hbk,l6.upd hu (by omega),((ButS.grow hgr7).trans hbs8).upd hu (by omega),by omega,by omega,by omega⟩
 rintro e W ⟨b6,b12,x,lo,hi,G1,M1,hsub,hG1,hM1,rfl,hpa,_,_,f12,f6,hbs,q6,q12,q612⟩
 refine cT (e':=[(12,_),(6,_),(1,_),(0,_)]) ?_ hsub
 clear hsub
 obtain ⟨la,lc,rfl,hls⟩:=hpa.lo.sl
 obtain ⟨ha,hc,rfl,hhs⟩:=hpa.hi.sl
 have fw:=dC hbw hbs hbm.1
 have hmW:=hM1.lt
 have l12:=f12.lt
 have l6:=f6.lt
 repeat (refine aJ ?_)
 apply T.any 6 [is (.pointer (some ⟨b,0,none⟩)),is (.pointer (some ⟨b,0,none⟩)),is (.pointer (some ⟨b,1,none⟩)),is (.map (some m)),is (.int .i64 (n:Int)),is (PtV t x (.slice la t.low.length lc) (.slice ha t.high.length hc))]
 ·rfl
 ·repeat' (first|exact bX|refine bU ?_ ?_)
  iterate 6
   ·(refine aQ rfl rfl rfl ?_);( intro wq _ _ hgq;(repeat (refine aG rfl rfl ?_;intro vq hvq;try (obtain rfl:=hvq)));(refine aM ?_))
    repeat (first|(refine aB ?_;refine TL.pure rfl rfl ?_)|(refine aU ?_;first|refine aK rfl yM rfl ?_|refine bE rfl yB (by exact rfl) rfl ?_)|refine aF rfl rfl ?_|refine TL.nil ?_|refine bL rfl rfl ?_)
    exact aS rfl yG rfl
 ·intro wt lot hit hgt _ _
  iterate 6 (refine aG rfl rfl ?_;intro vq hvq;try (obtain rfl:=hvq))
  refine aM ?_
  have zt:=hgt.size
  have hpt':=hpa.go (Carry.grow hgt)
  have hMt:=hM1.go (Carry.grow hgt) (hgt.block m hmW)
  have g12:=f12.grow hgt
  have g6:=f6.grow hgt
  have hbt:=hbs.trans (ButS.grow hgt)
  clear f12 f6 fw hgt hpa hM1
  obtain ⟨fm1,hmf1,hm01,hm11⟩:=hMt
  refine TL.isMapUp ?_
  refine TL.updateF rfl rfl rfl hmf1 (by omega) ?_
  intro w2 hu2 hmf2
  have cu:Carry G1 wt G1 w2:=Carry.upd hu2 (λ k hk _=>hGm k ((hG1 k).1 hk).1)
  have j12:=g12.upd hu2 (by omega)
  have j6:=g6.upd hu2 (by omega)
  have hp2:=hpt'.go cu
  have hM2:MemAt G1 w2 m ((n,t)::M1):=by
   refine ⟨_,hmf2,λ k hk=>?_,λ k t' hk=>?_⟩
   ·rw [getM_cons] at hk
    unfold upF
    by_cases hkn:k=n
    ·rw [if_pos hkn] at hk;cases hk
    ·rw [if_neg hkn] at hk ⊢;exact hm01 k hk
   ·rw [getM_cons] at hk
    unfold upF
    by_cases hkn:k=n
    ·rw [if_pos hkn] at hk
     cases hk
     rw [if_pos hkn]
     exact ⟨x,_,_,rfl,hp2⟩
    ·rw [if_neg hkn] at hk
     rw [if_neg hkn]
     obtain ⟨x',lo',hi',e1,e2⟩:=hm11 k t' hk
     exact ⟨x',lo',hi',e1,e2.go cu⟩
  have hb2:ButS (λ k=>k=m) w w2:=⟨hu2.os.trans hbt.os,hu2.tape.trans hbt.tape,hu2.output.trans hbt.output,by have:=hu2.size;have:=hbt.size;omega,λ k hk hkm=>(hu2.block k hkm).trans (hbt.block k hk hkm)⟩
  have z2:=hu2.size
  clear g12 g6 hu2 hmf2 hmf1
  repeat (first|(refine aD ?_;refine TL.pure rfl rfl ?_)|(refine aU ?_;refine bE rfl yB (by exact rfl) rfl ?_)|refine TL.nil ?_|refine aA ?_|refine aJ ?_|refine aC ?_|(refine aP ?_;(refine aY rfl rfl yB (by exact rfl) (by exact rfl) (by exact rfl) ?_;intro w' hu hbk hsz))|refine bC ?_)
  have cz:Carry G1 w2 G w':=(Carry.upd hu (λ k hk _=>((hG1 k).1 hk).2)).trans (Carry.mono λ k hk _=>((hG1 k).1 hk).1)
  exact jC rfl (bY hbk rfl) rfl ⟨_,rfl,⟨x,_,_,rfl,hp2.go cz⟩,hM2.go cz (hu.block m (by omega)),hb2.upd hu q6⟩
end Go.Proofs.YtfpadnmdafiddaaGreatDoor
namespace Go.Proofs.YtfpadnmdafiddaaGreatDoor
open Go Go.RowKit Go.V
def iP (nd:Nd) (i:Nat) (t p:Part):Part:=if i=0 then ⟨nd,p.levels+1,p.low,p.high⟩ else ⟨nd,t.levels,t.low,p.high⟩
theorem kidsP_cons {rec:Nat→eN→Option (Part×eN)} {nd:Nd} {k:Nat} {r:List Nat} {i:Nat} {t T:Part} {m M:eN} (h:lN rec nd (k::r) i t m=some (T,M)) :
  ∃ p m1,rec k m=some (p,m1)∧¬ bK p.node<4∧p.levels+1=(iP nd i t p).levels∧(0<i→¬ dU p.low (nd.keys.getD (i-1) [])<0)∧(i<nd.keys.length→¬ 0≤dU p.high (nd.keys.getD i [])) ∧
   lN rec nd r (i+1) (iP nd i t p) m1=some (T,M):=by
 unfold lN at h
 split at h
 ·cases h
 ·rename_i p m1 e
  change (if (decide (bK p.node<4) || !(p.levels+1==(iP nd i t p).levels) || (decide (0<i)&&decide (dU p.low (nd.keys.getD (i-1) [])<0)) || (decide (i<nd.keys.length)&&decide (0≤dU p.high (nd.keys.getD i []))))=true then none else lN rec nd r (i+1) (iP nd i t p) m1)=some (T,M) at h
  refine ⟨p,m1,e,?_⟩
  generalize iP nd i t p=t1 at h ⊢
  split at h
  ·cases h
  ·rename_i hc
   simp only [Bool.or_eq_true,Bool.and_eq_true,decide_eq_true_eq,Bool.not_eq_true',not_or,not_and] at hc
   obtain ⟨⟨⟨c1,c2⟩,c3⟩,c4⟩:=hc
   refine ⟨c1,?_,c3,c4,h⟩
   have c2':(p.levels+1==t1.levels)=true:=by
    cases hb:(p.levels+1==t1.levels) with
    | true=>rfl
    | false=>exact absurd hb c2
   exact eq_of_beq c2'
theorem kidsP_nil {rec:Nat→eN→Option (Part×eN)} {nd:Nd} {i:Nat} {t T:Part} {m M:eN} (h:lN rec nd [] i t m=some (T,M)):t.levels≤16∧T=t∧M=m:=by
 unfold lN at h
 split at h
 ·cases h
 ·simp only [Option.some.injEq,Prod.mk.injEq] at h
  exact ⟨by omega,h.1.symm,h.2.symm⟩
theorem kidsP_levels {rec:Nat→eN→Option (Part×eN)} {nd:Nd}:∀ {r:List Nat} {i:Nat} {t T:Part} {m M:eN},lN rec nd r i t m=some (T,M)→0<i→t.levels≤16
 | [],i,t,T,m,M,h,hi=>(kidsP_nil h).1
 | k::r,i,t,T,m,M,h,hi=>by
  obtain ⟨p,m1,_,_,_,_,_,h2⟩:=kidsP_cons h
  have:=kidsP_levels h2 (by omega)
  unfold iP at this
  rw [if_neg (by omega)] at this
  exact this
theorem branch_of {L:PL} {g:Pg} {b m f:Nat} (hf:f≤15) (hbm:b≠m∧m≠L.p∧m≠L.d∧m≠L.u∧m≠L.m) (hP:PartC L g b m f):BranchC L g b m f:=by
 intro w G M M' x nd t h hbw hM hGm hGw hx hok hnl hkp
 have hml:=hM.lt
 have hbl:=hbw.lt
 have hlts:=h.lts
 obtain ⟨nx1,nx2,nx3⟩:=hx.nums
 have hok':=hok
 unfold cH at hok'
 rw [if_neg (by rw [hnl];simp)] at hok'
 obtain ⟨hoi,ho2,ho8,hol,hokd,hoky⟩:=cU hok'
 refine V.calls (args:=[_,_,_]) Tryz.func196 rfl Tryz.ntmps196 rfl rfl ?_
 repeat (first|(refine aB ?_;refine TL.pure rfl rfl ?_)|(refine aD ?_;refine TL.pure rfl rfl ?_)|(refine aU ?_;first|refine aK rfl yM rfl ?_|refine bE rfl yB (by exact rfl) rfl ?_)|refine aF rfl rfl ?_|refine TL.nil ?_|refine aA ?_|refine aJ ?_|refine aC ?_|refine T.block ?_|(refine aP ?_;(refine aY rfl rfl yB (by exact rfl) (by exact rfl) (by exact rfl) ?_;intro w' hu hbk hsz))|(refine bW ?_;(refine dJ rfl rfl ?_;intro bk w' hg hbk hsz hsz'))|(refine bD ?_;(refine TL.alloc rfl rfl ?_;intro bk w' hg hbk hsz hsz'))|refine TL.build rfl rfl rfl ?_|refine aO rfl rfl ?_)
 rename_i b4 w1 g1 k1 p1 p1' b6 w2 g2 k2 p2 p2' w3 k3 p3
 obtain ⟨b8,rfl⟩:∃ z,z=bk:=⟨bk,rfl⟩
 have hgr0:Grow w w':=aZ hu (by omega) (g1.trans (g2.trans hg))
 have e4:Blk w' b4 79 x.cs:=((k1.grow g2).grow hg).upd hu (by omega)
 have e6:Blk w' b6 228 [.slice none 0 0,.slice none 0 0,.slice none 0 0,.int .i64 0,.slice none 0 0,.slice none 0 0]:=(k2.grow hg).upd hu (by omega)
 have e8:Blk w' b8 228 (PtC ⟨nd,0,[],[]⟩ x (.slice none 0 0) (.slice none 0 0)):=hbk
 have z0:=hu.size
 have q0:w.heap.size=b4∧b6=b4+1∧b8=b6+1∧w'.heap.size=b8+1:=by omega
 obtain ⟨G1,hG1⟩:∃ G1:Nat→Prop,∀ k,G1 k↔G k∧k≠b8∧k≠b6:=⟨_,λ _=>Iff.rfl⟩
 have cg:Carry G w G1 w':=(Carry.mono (λ k hk hl=>(hG1 k).2 ⟨hk,by omega,by omega⟩)).trans (Carry.grow hgr0)
 have hx0:=hx.go cg
 have hM0:=hM.go cg (hgr0.block m hml)
 clear hbk hu hg g1 g2 k1 k2 k3 cg hsz hsz' p1 p1' p2 p2' p3
 obtain ⟨w0,rfl⟩:∃ z,z=w':=⟨w',rfl⟩
 have hz0:BsAt G1 w0 (.slice none 0 0) []:=⟨_,_,_,rfl,by simp [cX],Nat.le_refl _,Nat.zero_le _,λ _=>rfl,by simp [Row,cX]⟩
 have hG1m:∀ k,G1 k→k≠m:=λ k hk=>hGm k ((hG1 k).1 hk).1
 have ckid:=hx0.kids
 have ckys:=hx0.kys
 refine cM (S:=Nat×Part×eN×Value×Value) (λ q=>[(18,.int .i64 (q.1:Int)),(17,.int .i64 (x.n2:Int)),(16,.slice x.a2 x.n2 x.c2),(8,.pointer (some ⟨b8,0,none⟩)),(6,.pointer (some ⟨b6,0,none⟩)),(4,.pointer (some ⟨b4,0,none⟩)),(2,.int .i64 ((16-f:Nat):Int)),(0,.pointer (some ⟨b,0,none⟩))])
  (λ q w1=>q.1≤x.n2∧lN (kN g f) nd (nd.kids.drop q.1) q.1 q.2.1 q.2.2.1=some (t,M')∧q.2.1.node=nd∧Blk w1 b8 228 (PtC q.2.1 x q.2.2.2.1 q.2.2.2.2)∧Blk w1 b4 79 x.cs∧Blk w1 b6 228 [.slice none 0 0,.slice none 0 0,.slice none 0 0,.int .i64 0,.slice none 0 0,.slice none 0 0] ∧
   MemAt G1 w1 m q.2.2.1∧BsAt G1 w1 q.2.2.2.1 q.2.1.low∧BsAt G1 w1 q.2.2.2.2 q.2.1.high∧Carry G1 w0 G1 w1∧ButS (λ k=>k=m) w w1) (λ q=>x.n2-q.1) (0,⟨nd,0,[],[]⟩,M,.slice none 0 0,.slice none 0 0) ⟨rfl,rfl,rfl,rfl,rfl,rfl,rfl,rfl,trivial⟩
  ⟨by simp only;omega,hkp,rfl,e8,e4,e6,hM0,hz0,hz0,Carry.mono (λ k hk _=>hk),ButS.grow hgr0⟩ ?_
 clear e8 e4 e6 hM0 hz0
 rintro ⟨i,ti,Mi,lo,hi⟩ w1 ⟨hi',hk,hnd,e8,e4,e6,hMi,hlo,hhi,ec,eb⟩
 simp only at hi' hk hnd e8 hMi hlo hhi
 have z1:=ec.size
 obtain ⟨la,lc,rfl,hls⟩:=hlo.sl
 obtain ⟨ha,hc,rfl,hhs⟩:=hhi.sl
 by_cases hlt:i<x.n2
 rotate_left
 ·obtain rfl:i=x.n2:=by omega
  rw [List.drop_eq_nil_of_le (by omega)] at hk
  obtain ⟨hl16,rfl,rfl⟩:=kidsP_nil hk
  repeat (first|(refine aD ?_;refine TL.pure rfl rfl ?_)|(refine aU ?_;first|refine aK rfl yM rfl ?_|refine bE rfl yB (by exact rfl) rfl ?_)|refine aF rfl rfl ?_|refine TL.nil ?_|refine aA ?_|refine aJ ?_|refine aC ?_|(refine aH ?_;refine aR rfl yD rfl ?_)|(refine aP ?_;(refine aY rfl rfl yB (by exact rfl) (by exact rfl) (by exact rfl) ?_;intro w' hu hbk hsz))|refine aE rfl ?_|refine bC ?_|refine aV ?_|refine cN ?_|refine bM ?_|refine bO ?_|refine bN ?_)
  have cz:Carry G1 w1 G w':=(Carry.upd hu (λ k hk _=>((hG1 k).1 hk).2.2)).trans (Carry.mono λ k hk _=>((hG1 k).1 hk).1)
  refine jC rfl (bY hbk rfl) rfl ⟨_,rfl,⟨x,_,_,rfl,⟨?_,hlo.go cz,hhi.go cz,by rw [hnd];exact hok⟩⟩,hMi.go cz (hu.block m (by omega)),eb.upd hu (by omega)⟩
  rw [hnd]
  exact (hx0.go ec).go cz
 obtain ⟨kid,hkid⟩:∃ q,nd.kids[i]? = some q:=⟨_,List.getElem?_eq_getElem (by omega)⟩
 rw [List.drop_eq_getElem_cons (by omega),show nd.kids[i]'(by omega)=kid from (List.getElem?_eq_some_iff.1 hkid).2] at hk
 obtain ⟨p,M1,hrec,h4,hlev,hcl,hch,hk2⟩:=kidsP_cons hk
 have hl16:=kidsP_levels hk2 (by omega)
 have hk31:=kid_ok hokd (List.mem_of_getElem? hkid)
 have hcx:w1.cell? (at' x.a2 i)=some (.int .i64 (kid:Int)):=(ckid.go ec).row.cell (by rw [show cB nd.kids=nd.kids.map λ (k:Nat)=>(.int .i64 (k:Int):Value) from rfl,List.getElem?_map,hkid];rfl)
 have hpw:PgAt w1 L g:=h.keep (λ c hc=>eb.block c (by omega) (by omega))
 have hbw1:=dC hbw eb hbm.1
 refine fJ 3 (λ e w1=>Sub [(18,.int .i64 (i:Int)),(17,.int .i64 (x.n2:Int)),(16,.slice x.a2 x.n2 x.c2),(8,.pointer (some ⟨b8,0,none⟩)),(6,.pointer (some ⟨b6,0,none⟩)),(4,.pointer (some ⟨b4,0,none⟩)),(2,.int .i64 ((16-f:Nat):Int)),(0,.pointer (some ⟨b,0,none⟩))] e ∧
  ∃ lo2 hi2,MemAt G1 w1 m M1∧Blk w1 b8 228 (PtC (iP nd i ti p) x lo2 hi2)∧Blk w1 b4 79 x.cs∧Blk w1 b6 228 [.slice none 0 0,.slice none 0 0,.slice none 0 0,.int .i64 0,.slice none 0 0,.slice none 0 0]∧BsAt G1 w1 lo2 (iP nd i ti p).low∧BsAt G1 w1 hi2 (iP nd i ti p).high∧Carry G1 w0 G1 w1∧ButS (λ k=>k=m) w w1) ?_ ?_
 rotate_left
 ·repeat (first|(refine bF ?_;refine aW (j:=i) rfl rfl rfl hlt (Nat.mul_one _) ⟨_,_,ckid.go ec⟩ rfl ?_)|(refine aB ?_;refine TL.pure rfl rfl ?_)|(refine aD ?_;refine TL.pure rfl rfl ?_)|refine aK rfl yM rfl ?_|(refine bJ ?_;refine bT rfl rfl (by omega) rfl ?_)|refine TL.nil ?_|refine aA ?_|refine aJ ?_|refine aC ?_|refine T.block ?_|(refine aH ?_;refine bA rfl yD rfl ?_)|refine aN rfl ?_|refine aV ?_|refine bH ?_|refine cQ ?_)
  rw [show 16-f+1=17-f by omega]
  refine aL 156 ?_
  refine aI rfl (hP w1 G1 Mi M1 kid p hpw hbw1 hMi hG1m (λ k hk=>(hG1 k).2 ⟨hGw k (by omega),by omega,by omega⟩) (by omega) hrec) rfl ?_
  rintro _ w3 ⟨⟨y,lo',hi'',rfl,hpa⟩,hM3,hb3⟩
  obtain ⟨qa,qc,rfl,hqs⟩:=hpa.lo.sl
  obtain ⟨ra,rc,rfl,hrs⟩:=hpa.hi.sl
  have z3:=hb3.size
  obtain ⟨ny1,ny2,ny3⟩:=hpa.nd.nums
  have hsz4:4≤y.n1+y.n2:=by unfold bK at h4;omega
  have hsz8:y.n1≤8∧y.n2≤8:=by
   have e2:=hpa.ok
   unfold cH at e2
   split at e2
   ·rename_i hll
    obtain ⟨_,q2,_⟩:=dL e2
    rw [dK] at hll
    rw [hll] at ny2
    simp at ny2
    omega
   ·obtain ⟨q1,_,q2,_⟩:=cU e2
    rw [q1] at ny1
    simp at ny1
    omega
  have d8:=dC e8 hb3 (by omega)
  have d4:=dC e4 hb3 (by omega)
  have d6:=dC e6 hb3 (by omega)
  have c3:Carry G1 w1 G1 w3:=Carry.buts hb3 (λ k hk _=>hG1m k hk)
  have hlo3:=hlo.go c3
  have hhi3:=hhi.go c3
  have c03:=ec.trans c3
  have b03:=eb.trans hb3
  have hm3:=hM3.lt
  clear e8 e4 e6 hMi hlo hhi ec eb hls hhs hcx hbw1 c3 hb3
  obtain ⟨w3',rfl⟩:∃ z,z=w3:=⟨w3,rfl⟩
  by_cases hi0:i=0
  ·have hlp:p.levels+1≤16:=by rw [hlev];exact hl16
   repeat (first|(refine aB ?_;refine TL.pure rfl rfl ?_)|(refine aD ?_;refine TL.pure rfl rfl ?_)|refine TL.nil ?_|refine aA ?_|refine aJ ?_|refine aC ?_|(refine aH ?_;first|refine bA rfl yD rfl ?_|refine aR rfl yD rfl ?_)|(refine aP ?_;(refine aY rfl rfl yB (by exact rfl) (by exact rfl) (by exact rfl) ?_;intro w' hu hbk hsz))|(refine bD ?_;(refine TL.alloc rfl rfl ?_;intro bk w' hg hbk hsz hsz'))|refine aN rfl ?_|refine aE rfl ?_|refine aV ?_|refine TL.pure rfl rfl ?_)
   obtain ⟨b11,rfl⟩:∃ z,z=bk:=⟨bk,rfl⟩
   have hg4:Grow w3' w':=aZ hu (by omega) hg
   have f11:Blk w' b11 228 (PtC p y (.slice qa p.low.length qc) (.slice ra p.high.length rc)):=hbk
   have f8:=d8.grow hg4
   have f4:=d4.grow hg4
   have f6:=d6.grow hg4
   have fb:=b03.trans (ButS.grow hg4)
   have z4:=hg4.size
   have q11:w3'.heap.size=b11:=by omega
   clear hbk hu hg hsz hsz' d8 d4 d6
   obtain ⟨w4,rfl⟩:∃ z,z=w':=⟨w',rfl⟩
   apply T.detA 7 6 [.pointer (some ⟨b11,3,none⟩),.int .i64 (p.levels:Int),.int .i64 ((p.levels+1:Nat):Int),.pointer (some ⟨b11,4,none⟩),.slice qa p.low.length qc,.pointer (some ⟨b8,3,none⟩),undef]
    (λ q wz=>Blk wz b11 228 (PtC p y (.slice qa p.low.length qc) (.slice ra p.high.length rc))∧Blk wz b8 228 [.slice x.a1 x.n1 x.c1,.slice x.a2 x.n2 x.c2,.slice x.a3 x.n3 x.c3,(if q then .int .i64 ((p.levels+1:Nat):Int) else .int .i64 (ti.levels:Int)),.slice la ti.low.length lc,.slice ha ti.high.length hc]∧Blk wz b4 79 x.cs∧Blk wz b6 228 [.slice none 0 0,.slice none 0 0,.slice none 0 0,.int .i64 0,.slice none 0 0,.slice none 0 0]∧Carry G1 w4 G1 wz∧ButS (λ k=>k=m) w wz∧wz.heap[m]? = w4.heap[m]?)
   ·rfl
   ·exact λ wz h1=>⟨f11.grow h1,f8.grow h1,f4.grow h1,f6.grow h1,Carry.grow h1,fb.trans (ButS.grow h1),h1.block m (by omega)⟩
   ·clear f11 f8 f4 f6
    repeat' (first|exact iF|refine gQ ?_ ?_)
    ·refine cI rfl rfl rfl ?_
     rintro q wq _ ⟨i11,i8,i4,i6,ic,ig,im⟩
     repeat (first|refine aF rfl rfl ?_|refine TL.nil ?_)
     refine bB rfl ?_
     rw [show (q || Nat.beq 0 6)=q from Bool.or_false q]
     exact ⟨i11,i8,i4,i6,ic,ig,im⟩
    ·refine cI rfl rfl rfl ?_
     rintro q wq _ ⟨i11,i8,i4,i6,ic,ig,im⟩
     repeat (first|refine aK rfl yM rfl ?_|refine TL.nil ?_)
     refine bB rfl ?_
     rw [show (q || Nat.beq 1 6)=q from Bool.or_false q]
     exact ⟨i11,i8,i4,i6,ic,ig,im⟩
    ·refine cI rfl rfl rfl ?_
     rintro q wq _ ⟨i11,i8,i4,i6,ic,ig,im⟩
     repeat (first|(refine bJ ?_;refine bT rfl rfl (by omega) rfl ?_)|refine TL.nil ?_)
     refine bB rfl ?_
     rw [show (q || Nat.beq 2 6)=q from Bool.or_false q]
     exact ⟨i11,i8,i4,i6,ic,ig,im⟩
    ·refine cI rfl rfl rfl ?_
     rintro q wq _ ⟨i11,i8,i4,i6,ic,ig,im⟩
     repeat (first|refine aF rfl rfl ?_|refine TL.nil ?_)
     refine bB rfl ?_
     rw [show (q || Nat.beq 3 6)=q from Bool.or_false q]
     exact ⟨i11,i8,i4,i6,ic,ig,im⟩
    ·refine cI rfl rfl rfl ?_
     rintro q wq _ ⟨i11,i8,i4,i6,ic,ig,im⟩
     repeat (first|refine aK rfl yM rfl ?_|refine TL.nil ?_)
     refine bB rfl ?_
     rw [show (q || Nat.beq 4 6)=q from Bool.or_false q]
     exact ⟨i11,i8,i4,i6,ic,ig,im⟩
    ·refine cI rfl rfl rfl ?_
     rintro q wq _ ⟨i11,i8,i4,i6,ic,ig,im⟩
     repeat (first|refine aF rfl rfl ?_|refine TL.nil ?_)
     refine bB rfl ?_
     rw [show (q || Nat.beq 5 6)=q from Bool.or_false q]
     exact ⟨i11,i8,i4,i6,ic,ig,im⟩
    ·refine cI rfl rfl rfl ?_
     rintro q wq hb ⟨i11,i8,i4,i6,ic,ig,im⟩
     obtain rfl:=hb rfl
     have i8':Blk wq b8 228 (PtC ti x (.slice la ti.low.length lc) (.slice ha ti.high.length hc)):=i8
     clear i8
     repeat (first|refine TL.nil ?_|(refine aP ?_;(refine bP rfl rfl yB (by exact rfl) (by exact rfl) (by exact rfl) ?_;intro w' hu hbk hsz)))
     exact iD ⟨i11.upd hu (by omega),hbk,i4.upd hu (by omega),i6.upd hu (by omega),ic.trans (Carry.upd hu (λ k hk _=>((hG1 k).1 hk).2.1)),ig.upd hu (by omega),(hu.block m (by omega)).trans im⟩
   ·rintro w5 ⟨i11,i8,i4,i6,ic,ig,im⟩
    have i8':Blk w5 b8 228 [.slice x.a1 x.n1 x.c1,.slice x.a2 x.n2 x.c2,.slice x.a3 x.n3 x.c3,.int .i64 ((p.levels+1:Nat):Int),.slice la ti.low.length lc,.slice ha ti.high.length hc]:=i8
    have z5:=ic.size
    clear i8 f11 f8 f4 f6
    repeat (first|(refine aD ?_;refine TL.pure rfl rfl ?_)|(refine aU ?_;first|refine aK rfl yM rfl ?_|refine lY rfl yB (by exact rfl) (by exact rfl) rfl ?_)|refine aF rfl rfl ?_|(refine cJ ?_;refine dI rfl rfl (by omega) (by omega) rfl ?_)|refine TL.nil ?_|refine aA ?_|refine aJ ?_|refine aC ?_|refine T.block ?_|(refine aH ?_;refine aR rfl yD rfl ?_)|(refine aP ?_;(refine bP rfl rfl yB (by exact rfl) (by exact rfl) (by exact rfl) ?_;intro w' hu hbk hsz))|refine aE rfl ?_|(refine aL 83 ?_;refine aI rfl (iJ y _ (by omega) (by omega)) rfl ?_;rintro _ _ ⟨rfl,hgc⟩))
    rename_i w7 hu7 hb7 z7 w6
    have z6:=hgc.size
    have f11:=((i11.upd hu7 (by omega)).upd hu (by omega)).grow hgc
    have f8:Blk w6 b8 228 [.slice x.a1 x.n1 x.c1,.slice x.a2 x.n2 x.c2,.slice x.a3 x.n3 x.c3,.int .i64 ((p.levels+1:Nat):Int),.slice qa p.low.length qc,.slice ra p.high.length rc]:=Blk.grow hgc hbk
    have f4:=((i4.upd hu7 (by omega)).upd hu (by omega)).grow hgc
    have f6:=((i6.upd hu7 (by omega)).upd hu (by omega)).grow hgc
    have cu:Carry G1 w3' G1 w6:=(Carry.grow hg4).trans (ic.trans ((Carry.upd hu7 (λ k hk _=>((hG1 k).1 hk).2.1)).trans ((Carry.upd hu (λ k hk _=>((hG1 k).1 hk).2.1)).trans (Carry.grow hgc))))
    have c6:=c03.trans cu
    have b6':ButS (λ k=>k=m) w w6:=((ig.upd hu7 (by omega)).upd hu (by omega)).trans (ButS.grow hgc)
    have hm6:w6.heap[m]? = w3'.heap[m]?:=(hgc.block m (by omega)).trans ((hu.block m (by omega)).trans ((hu7.block m (by omega)).trans (im.trans (hg4.block m hm3))))
    have hM6:=hM3.go cu hm6
    have bl6:=hpa.lo.go cu
    have bh6:=hpa.hi.go cu
    have hqs6:=hqs.go cu
    have hrs6:=hrs.go cu
    have hky6:=ckys.go c6
    clear i11 i8' i4 i6 ic ig im hbk hu hb7 hu7 hgc cu hg4
    apply T.det 14 [.int .i64 (i:Int),.bool false,.bool false,undef,undef,undef,undef,undef,undef,undef,undef,undef,undef,.bool false]
     (λ wz=>Blk wz b11 228 (PtC p y (.slice qa p.low.length qc) (.slice ra p.high.length rc))∧Blk wz b8 228 [.slice x.a1 x.n1 x.c1,.slice x.a2 x.n2 x.c2,.slice x.a3 x.n3 x.c3,.int .i64 ((p.levels+1:Nat):Int),.slice qa p.low.length qc,.slice ra p.high.length rc]∧Blk wz b4 79 x.cs∧Blk wz b6 228 [.slice none 0 0,.slice none 0 0,.slice none 0 0,.int .i64 0,.slice none 0 0,.slice none 0 0]∧Grow w6 wz)
    ·rfl
    ·exact λ wz h1=>⟨f11.grow h1,f8.grow h1,f4.grow h1,f6.grow h1,(Grow.refl w6).trans h1⟩
    ·clear f11 f8 f4 f6
     repeat' (first|exact gP|refine fS ?_ ?_)
     ·refine bV rfl rfl rfl ?_
      rintro wq ⟨i11,i8,i4,i6,ic⟩
      repeat (first|(refine aB ?_;refine TL.pure rfl rfl ?_)|refine TL.nil ?_)
      exact bB rfl ⟨i11,i8,i4,i6,ic⟩
     ·refine bV rfl rfl rfl ?_
      rintro wq ⟨i11,i8,i4,i6,ic⟩
      repeat (first|refine TL.nil ?_|(refine aH ?_;refine aR rfl yD rfl ?_))
      exact bB rfl ⟨i11,i8,i4,i6,ic⟩
     ·refine bV rfl rfl rfl ?_
      rintro wq ⟨i11,i8,i4,i6,ic⟩
      repeat (first|(refine aB ?_;refine TL.pure rfl rfl ?_)|refine TL.nil ?_)
      exact bB rfl ⟨i11,i8,i4,i6,ic⟩
     ·refine bV rfl rfl rfl ?_
      rintro wq ⟨i11,i8,i4,i6,ic⟩
      repeat (first|refine bQ rfl rfl rfl ?_|refine TL.nil ?_)
      exact bB rfl ⟨i11,i8,i4,i6,ic⟩
     ·refine bV rfl rfl rfl ?_
      rintro wq ⟨i11,i8,i4,i6,ic⟩
      repeat (first|refine bQ rfl rfl rfl ?_|refine TL.nil ?_)
      exact bB rfl ⟨i11,i8,i4,i6,ic⟩
     ·refine bV rfl rfl rfl ?_
      rintro wq ⟨i11,i8,i4,i6,ic⟩
      repeat (first|refine bQ rfl rfl rfl ?_|refine TL.nil ?_)
      exact bB rfl ⟨i11,i8,i4,i6,ic⟩
     ·refine bV rfl rfl rfl ?_
      rintro wq ⟨i11,i8,i4,i6,ic⟩
      repeat (first|refine bQ rfl rfl rfl ?_|refine TL.nil ?_)
      exact bB rfl ⟨i11,i8,i4,i6,ic⟩
     ·refine bV rfl rfl rfl ?_
      rintro wq ⟨i11,i8,i4,i6,ic⟩
      repeat (first|refine bQ rfl rfl rfl ?_|refine TL.nil ?_)
      exact bB rfl ⟨i11,i8,i4,i6,ic⟩
     ·refine bV rfl rfl rfl ?_
      rintro wq ⟨i11,i8,i4,i6,ic⟩
      repeat (first|refine bQ rfl rfl rfl ?_|refine TL.nil ?_)
      exact bB rfl ⟨i11,i8,i4,i6,ic⟩
     ·refine bV rfl rfl rfl ?_
      rintro wq ⟨i11,i8,i4,i6,ic⟩
      repeat (first|refine bQ rfl rfl rfl ?_|refine TL.nil ?_)
      exact bB rfl ⟨i11,i8,i4,i6,ic⟩
     ·refine bV rfl rfl rfl ?_
      rintro wq ⟨i11,i8,i4,i6,ic⟩
      repeat (first|refine bQ rfl rfl rfl ?_|refine TL.nil ?_)
      exact bB rfl ⟨i11,i8,i4,i6,ic⟩
     ·refine bV rfl rfl rfl ?_
      rintro wq ⟨i11,i8,i4,i6,ic⟩
      repeat (first|refine bQ rfl rfl rfl ?_|refine TL.nil ?_)
      exact bB rfl ⟨i11,i8,i4,i6,ic⟩
     ·refine bV rfl rfl rfl ?_
      rintro wq ⟨i11,i8,i4,i6,ic⟩
      repeat (first|refine bQ rfl rfl rfl ?_|refine TL.nil ?_)
      exact bB rfl ⟨i11,i8,i4,i6,ic⟩
     ·refine bV rfl rfl rfl ?_
      rintro wq ⟨i11,i8,i4,i6,ic⟩
      repeat (first|refine TL.nil ?_|refine TL.pure rfl rfl ?_)
      exact bB rfl ⟨i11,i8,i4,i6,ic⟩
    ·rintro w7' ⟨g11,g8,g4,g6,h67⟩
     clear f11 f8 f4 f6
     repeat (first|(refine aD ?_;refine TL.pure rfl rfl ?_)|refine TL.nil ?_|refine aA ?_|refine aE rfl ?_)
     obtain ⟨kkB,hkkB⟩:∃ q,nd.keys[i]? = some q:=⟨_,List.getElem?_eq_getElem (by omega)⟩
     obtain ⟨kcsB,hkrB,hkcB⟩:=hky6.ex
     obtain ⟨kvB,kfB,hkvB⟩:=hkcB.at' hkkB
     obtain ⟨kaB,kcB,rfl,hksB⟩:=hkvB.sl
     have ekkB:nd.keys.getD (i) []=kkB:=by rw [List.getD_eq_getElem?_getD,hkkB];rfl
     rw [ekkB] at hch
     have hchB:=hch (by omega)
     apply T.det 16 [.int .i64 (i:Int),.pointer (some ⟨b4,2,none⟩),.slice x.a3 x.n3 x.c3,.int .i64 (x.n3:Int),.bool true,.bool true,.pointer (some ⟨b11,5,none⟩),.slice ra p.high.length rc,.pointer (some ⟨b4,2,none⟩),.slice x.a3 x.n3 x.c3,.int .i64 (i:Int),.pointer (some (at' x.a3 (i*1))),(.slice kaB kkB.length kcB),.int .i64 (dU p.high kkB),.bool false,.bool false]
      (λ wz=>Blk wz b11 228 (PtC p y (.slice qa p.low.length qc) (.slice ra p.high.length rc))∧Blk wz b8 228 [.slice x.a1 x.n1 x.c1,.slice x.a2 x.n2 x.c2,.slice x.a3 x.n3 x.c3,.int .i64 ((p.levels+1:Nat):Int),.slice qa p.low.length qc,.slice ra p.high.length rc]∧Blk wz b4 79 x.cs∧Blk wz b6 228 [.slice none 0 0,.slice none 0 0,.slice none 0 0,.int .i64 0,.slice none 0 0,.slice none 0 0]∧Grow w6 wz)
     ·rfl
     ·exact λ wz h1=>⟨g11.grow h1,g8.grow h1,g4.grow h1,g6.grow h1,h67.trans h1⟩
     ·clear g11 g8 g4 g6
      repeat' (first|exact gP|refine fS ?_ ?_)
      ·refine bV rfl rfl rfl ?_
       rintro wq ⟨i11,i8,i4,i6,ic⟩
       repeat (first|(refine aB ?_;refine TL.pure rfl rfl ?_)|refine TL.nil ?_)
       exact bB rfl ⟨i11,i8,i4,i6,ic⟩
      ·refine bV rfl rfl rfl ?_
       rintro wq ⟨i11,i8,i4,i6,ic⟩
       repeat (first|refine aF rfl rfl ?_|refine TL.nil ?_)
       exact bB rfl ⟨i11,i8,i4,i6,ic⟩
      ·refine bV rfl rfl rfl ?_
       rintro wq ⟨i11,i8,i4,i6,ic⟩
       repeat (first|refine aK rfl yM rfl ?_|refine TL.nil ?_)
       exact bB rfl ⟨i11,i8,i4,i6,ic⟩
      ·refine bV rfl rfl rfl ?_
       rintro wq ⟨i11,i8,i4,i6,ic⟩
       repeat (first|refine TL.nil ?_|refine aO rfl rfl ?_)
       exact bB rfl ⟨i11,i8,i4,i6,ic⟩
      ·refine bV rfl rfl rfl ?_
       rintro wq ⟨i11,i8,i4,i6,ic⟩
       repeat (first|refine TL.nil ?_|(refine aH ?_;refine bA rfl yD rfl ?_))
       exact bB rfl ⟨i11,i8,i4,i6,ic⟩
      ·refine bV rfl rfl rfl ?_
       rintro wq ⟨i11,i8,i4,i6,ic⟩
       repeat (first|(refine aB ?_;refine TL.pure rfl rfl ?_)|refine TL.nil ?_)
       exact bB rfl ⟨i11,i8,i4,i6,ic⟩
      ·refine bV rfl rfl rfl ?_
       rintro wq ⟨i11,i8,i4,i6,ic⟩
       repeat (first|refine aX rfl rfl rfl ?_|refine aF rfl rfl ?_|refine TL.nil ?_)
       exact bB rfl ⟨i11,i8,i4,i6,ic⟩
      ·refine bV rfl rfl rfl ?_
       rintro wq ⟨i11,i8,i4,i6,ic⟩
       repeat (first|refine aX rfl rfl rfl ?_|refine aK rfl yM rfl ?_|refine TL.nil ?_)
       exact bB rfl ⟨i11,i8,i4,i6,ic⟩
      ·refine bV rfl rfl rfl ?_
       rintro wq ⟨i11,i8,i4,i6,ic⟩
       repeat (first|refine aX rfl rfl rfl ?_|refine aF rfl rfl ?_|refine TL.nil ?_)
       exact bB rfl ⟨i11,i8,i4,i6,ic⟩
      ·refine bV rfl rfl rfl ?_
       rintro wq ⟨i11,i8,i4,i6,ic⟩
       repeat (first|refine aX rfl rfl rfl ?_|refine aK rfl yM rfl ?_|refine TL.nil ?_)
       exact bB rfl ⟨i11,i8,i4,i6,ic⟩
      ·refine bV rfl rfl rfl ?_
       rintro wq ⟨i11,i8,i4,i6,ic⟩
       repeat (first|refine aX rfl rfl rfl ?_|(refine aB ?_;refine TL.pure rfl rfl ?_)|refine TL.nil ?_)
       exact bB rfl ⟨i11,i8,i4,i6,ic⟩
      ·refine bV rfl rfl rfl ?_
       rintro wq ⟨i11,i8,i4,i6,ic⟩
       repeat (first|refine aX rfl rfl rfl ?_|(refine bF ?_;refine aW (j:=i) rfl rfl rfl (by omega) rfl ⟨_,_,hkrB.grow ic⟩ rfl ?_)|refine TL.nil ?_)
       exact bB rfl ⟨i11,i8,i4,i6,ic⟩
      ·refine bV rfl rfl rfl ?_
       rintro wq ⟨i11,i8,i4,i6,ic⟩
       have hcx:wq.cell? (at' x.a3 (i*1))=some (.slice kaB kkB.length kcB):=(hkrB.grow ic).row.cell (by rw [Nat.mul_one];exact kfB)
       repeat (first|refine aX rfl rfl rfl ?_|refine aK rfl yM rfl ?_|refine TL.nil ?_)
       exact bB rfl ⟨i11,i8,i4,i6,ic⟩
      ·refine bV rfl rfl rfl ?_
       rintro wq ⟨i11,i8,i4,i6,ic⟩
       refine aX rfl rfl rfl ?_
       refine aL 139 ?_
       refine aI rfl (gE _ _ ra p.high.length rc kaB kkB.length kcB p.high kkB _ (hrs6.grow ic) (hksB.grow ic)) rfl ?_
       rintro _ wr ⟨rfl,hgr⟩
       repeat (refine TL.nil ?_)
       exact bB rfl ⟨i11.grow hgr,i8.grow hgr,i4.grow hgr,i6.grow hgr,ic.trans hgr⟩
      ·refine bV rfl rfl rfl ?_
       rintro wq ⟨i11,i8,i4,i6,ic⟩
       repeat (first|refine aX rfl rfl rfl ?_|refine TL.nil ?_|(refine aH ?_;refine aR rfl yD rfl ?_))
       exact bB rfl ⟨i11,i8,i4,i6,ic⟩
      ·refine bV rfl rfl rfl ?_
       rintro wq ⟨i11,i8,i4,i6,ic⟩
       repeat (first|refine TL.nil ?_|refine TL.pure rfl rfl ?_)
       exact bB rfl ⟨i11,i8,i4,i6,ic⟩
     ·rintro w9 ⟨i11,i8,i4,i6,ic⟩
      clear g11 g8 g4 g6
      repeat (first|(refine aD ?_;refine TL.pure rfl rfl ?_)|refine TL.nil ?_|refine aA ?_|refine aT ?_|refine aE rfl ?_|refine aV ?_|refine bH ?_|refine cR ?_)
      have cz:=c6.trans (Carry.grow ic)
      refine ⟨⟨rfl,rfl,rfl,rfl,rfl,rfl,rfl,rfl,trivial⟩,.slice qa p.low.length qc,.slice ra p.high.length rc,hM6.go (Carry.grow ic) (ic.block m hM6.lt),?_,i4,i6,?_,?_,cz,b6'.trans (ButS.grow ic)⟩
      ·simp only [iP,if_pos hi0];exact i8
      ·simp only [iP,if_pos hi0];exact bl6.go (Carry.grow ic)
      ·simp only [iP,if_pos hi0];exact bh6.go (Carry.grow ic)
  ·have hlp:p.levels+1=ti.levels:=by rw [hlev];simp only [iP,if_neg hi0]
   repeat (first|(refine aB ?_;refine TL.pure rfl rfl ?_)|(refine aD ?_;refine TL.pure rfl rfl ?_)|(refine aU ?_;first|refine aK rfl yM rfl ?_|refine lY rfl yB (by exact rfl) (by exact rfl) rfl ?_)|refine aF rfl rfl ?_|(refine cJ ?_;refine dI rfl rfl (by omega) (by omega) rfl ?_)|refine TL.nil ?_|refine aA ?_|refine aJ ?_|refine aC ?_|refine T.block ?_|(refine aH ?_;refine aR rfl yD rfl ?_)|(refine aP ?_;first|(refine bP rfl rfl yB (by exact rfl) (by exact rfl) (by exact rfl) ?_;intro w' hu hbk hsz)|(refine aY rfl rfl yB (by exact rfl) (by exact rfl) (by exact rfl) ?_;intro w' hu hbk hsz))|(refine bD ?_;(refine TL.alloc rfl rfl ?_;intro bk w' hg hbk hsz hsz'))|refine aE rfl ?_|refine aV ?_|refine TL.pure rfl rfl ?_|(refine aL 83 ?_;refine aI rfl (iJ y _ (by omega) (by omega)) rfl ?_;rintro _ _ ⟨rfl,hgc⟩))
   rename_i w4 k4 p4 w5 u5 k5 z5 w6
   obtain ⟨b11,rfl⟩:∃ z,z=bk:=⟨bk,rfl⟩
   have z6:=hgc.size
   have hg4:Grow w3' w5:=aZ u5 (by omega) hg
   have f11:Blk w6 b11 228 (PtC p y (.slice qa p.low.length qc) (.slice ra p.high.length rc)):=(Blk.upd hu (by omega) k5).grow hgc
   have f8:Blk w6 b8 228 [.slice x.a1 x.n1 x.c1,.slice x.a2 x.n2 x.c2,.slice x.a3 x.n3 x.c3,.int .i64 (ti.levels:Int),.slice la ti.low.length lc,.slice ra p.high.length rc]:=Blk.grow hgc hbk
   have f4:=((d4.grow hg4).upd hu (by omega)).grow hgc
   have f6:=((d6.grow hg4).upd hu (by omega)).grow hgc
   have cu:Carry G1 w3' G1 w6:=(Carry.grow hg4).trans ((Carry.upd hu (λ k hk _=>((hG1 k).1 hk).2.1)).trans (Carry.grow hgc))
   have c6:=c03.trans cu
   have b6':ButS (λ k=>k=m) w w6:=((b03.trans (ButS.grow hg4)).upd hu (by omega)).trans (ButS.grow hgc)
   have z4:=hg4.size
   have hm6:w6.heap[m]? = w3'.heap[m]?:=(hgc.block m (by omega)).trans ((hu.block m (by omega)).trans (hg4.block m hm3))
   have hM6:=hM3.go cu hm6
   have bl6:=(show BsAt G1 w3' (.slice la ti.low.length lc) ti.low from hlo3).go cu
   have bh6:=hpa.hi.go cu
   have hqs6:=hqs.go cu
   have hrs6:=hrs.go cu
   have hky6:=ckys.go c6
   have q11:w3'.heap.size=b11∧b11<w6.heap.size:=by omega
   clear hbk hu k4 k5 u5 hg hgc cu hg4 d8 d4 d6
   obtain ⟨kkA,hkkA⟩:∃ q,nd.keys[i-1]? = some q:=⟨_,List.getElem?_eq_getElem (by omega)⟩
   obtain ⟨kcsA,hkrA,hkcA⟩:=hky6.ex
   obtain ⟨kvA,kfA,hkvA⟩:=hkcA.at' hkkA
   obtain ⟨kaA,kcA,rfl,hksA⟩:=hkvA.sl
   have ekkA:nd.keys.getD (i-1) []=kkA:=by rw [List.getD_eq_getElem?_getD,hkkA];rfl
   rw [ekkA] at hcl
   have hclA:=hcl (by omega)
   apply T.det 14 [.int .i64 (i:Int),.bool true,.bool true,.pointer (some ⟨b11,4,none⟩),.slice qa p.low.length qc,.pointer (some ⟨b4,2,none⟩),.slice x.a3 x.n3 x.c3,.int .i64 (i:Int),.int .i64 ((i-1:Nat):Int),.pointer (some (at' x.a3 ((i-1)*1))),(.slice kaA kkA.length kcA),.int .i64 (dU p.low kkA),.bool false,.bool false]
    (λ wz=>Blk wz b11 228 (PtC p y (.slice qa p.low.length qc) (.slice ra p.high.length rc))∧Blk wz b8 228 [.slice x.a1 x.n1 x.c1,.slice x.a2 x.n2 x.c2,.slice x.a3 x.n3 x.c3,.int .i64 (ti.levels:Int),.slice la ti.low.length lc,.slice ra p.high.length rc]∧Blk wz b4 79 x.cs∧Blk wz b6 228 [.slice none 0 0,.slice none 0 0,.slice none 0 0,.int .i64 0,.slice none 0 0,.slice none 0 0]∧Grow w6 wz)
   ·rfl
   ·exact λ wz h1=>⟨f11.grow h1,f8.grow h1,f4.grow h1,f6.grow h1,(Grow.refl w6).trans h1⟩
   ·clear f11 f8 f4 f6
    repeat' (first|exact gP|refine fS ?_ ?_)
    ·refine bV rfl rfl rfl ?_
     rintro wq ⟨i11,i8,i4,i6,ic⟩
     repeat (first|(refine aB ?_;refine TL.pure rfl rfl ?_)|refine TL.nil ?_)
     exact bB rfl ⟨i11,i8,i4,i6,ic⟩
    ·refine bV rfl rfl rfl ?_
     rintro wq ⟨i11,i8,i4,i6,ic⟩
     repeat (first|refine TL.nil ?_|(refine aH ?_;refine bA rfl yD rfl ?_))
     exact bB rfl ⟨i11,i8,i4,i6,ic⟩
    ·refine bV rfl rfl rfl ?_
     rintro wq ⟨i11,i8,i4,i6,ic⟩
     repeat (first|(refine aB ?_;refine TL.pure rfl rfl ?_)|refine TL.nil ?_)
     exact bB rfl ⟨i11,i8,i4,i6,ic⟩
    ·refine bV rfl rfl rfl ?_
     rintro wq ⟨i11,i8,i4,i6,ic⟩
     repeat (first|refine aX rfl rfl rfl ?_|refine aF rfl rfl ?_|refine TL.nil ?_)
     exact bB rfl ⟨i11,i8,i4,i6,ic⟩
    ·refine bV rfl rfl rfl ?_
     rintro wq ⟨i11,i8,i4,i6,ic⟩
     repeat (first|refine aX rfl rfl rfl ?_|refine aK rfl yM rfl ?_|refine TL.nil ?_)
     exact bB rfl ⟨i11,i8,i4,i6,ic⟩
    ·refine bV rfl rfl rfl ?_
     rintro wq ⟨i11,i8,i4,i6,ic⟩
     repeat (first|refine aX rfl rfl rfl ?_|refine aF rfl rfl ?_|refine TL.nil ?_)
     exact bB rfl ⟨i11,i8,i4,i6,ic⟩
    ·refine bV rfl rfl rfl ?_
     rintro wq ⟨i11,i8,i4,i6,ic⟩
     repeat (first|refine aX rfl rfl rfl ?_|refine aK rfl yM rfl ?_|refine TL.nil ?_)
     exact bB rfl ⟨i11,i8,i4,i6,ic⟩
    ·refine bV rfl rfl rfl ?_
     rintro wq ⟨i11,i8,i4,i6,ic⟩
     repeat (first|refine aX rfl rfl rfl ?_|(refine aB ?_;refine TL.pure rfl rfl ?_)|refine TL.nil ?_)
     exact bB rfl ⟨i11,i8,i4,i6,ic⟩
    ·refine bV rfl rfl rfl ?_
     rintro wq ⟨i11,i8,i4,i6,ic⟩
     repeat (first|refine aX rfl rfl rfl ?_|(refine cJ ?_;refine dI rfl rfl (by omega) (by omega) rfl ?_)|refine TL.nil ?_)
     exact bB rfl ⟨i11,i8,i4,i6,ic⟩
    ·refine bV rfl rfl rfl ?_
     rintro wq ⟨i11,i8,i4,i6,ic⟩
     repeat (first|refine aX rfl rfl rfl ?_|(refine bF ?_;refine aW (j:=(i-1)) rfl rfl rfl (by omega) rfl ⟨_,_,hkrA.grow ic⟩ rfl ?_)|refine TL.nil ?_)
     exact bB rfl ⟨i11,i8,i4,i6,ic⟩
    ·refine bV rfl rfl rfl ?_
     rintro wq ⟨i11,i8,i4,i6,ic⟩
     have hcx:wq.cell? (at' x.a3 ((i-1)*1))=some (.slice kaA kkA.length kcA):=(hkrA.grow ic).row.cell (by rw [Nat.mul_one];exact kfA)
     repeat (first|refine aX rfl rfl rfl ?_|refine aK rfl yM rfl ?_|refine TL.nil ?_)
     exact bB rfl ⟨i11,i8,i4,i6,ic⟩
    ·refine bV rfl rfl rfl ?_
     rintro wq ⟨i11,i8,i4,i6,ic⟩
     refine aX rfl rfl rfl ?_
     refine aL 139 ?_
     refine aI rfl (gE _ _ qa p.low.length qc kaA kkA.length kcA p.low kkA _ (hqs6.grow ic) (hksA.grow ic)) rfl ?_
     rintro _ wr ⟨rfl,hgr⟩
     repeat (refine TL.nil ?_)
     exact bB rfl ⟨i11.grow hgr,i8.grow hgr,i4.grow hgr,i6.grow hgr,ic.trans hgr⟩
    ·refine bV rfl rfl rfl ?_
     rintro wq ⟨i11,i8,i4,i6,ic⟩
     repeat (first|refine aX rfl rfl rfl ?_|refine TL.nil ?_|(refine aH ?_;refine aR rfl yD rfl ?_))
     exact bB rfl ⟨i11,i8,i4,i6,ic⟩
    ·refine bV rfl rfl rfl ?_
     rintro wq ⟨i11,i8,i4,i6,ic⟩
     repeat (first|refine TL.nil ?_|refine TL.pure rfl rfl ?_)
     exact bB rfl ⟨i11,i8,i4,i6,ic⟩
   ·rintro w7' ⟨g11,g8,g4,g6,h67⟩
    clear f11 f8 f4 f6
    repeat (first|(refine aD ?_;refine TL.pure rfl rfl ?_)|refine TL.nil ?_|refine aA ?_|refine aE rfl ?_)
    by_cases hhas:i<x.n3
    ·repeat (refine aJ ?_)
     obtain ⟨kkB,hkkB⟩:∃ q,nd.keys[i]? = some q:=⟨_,List.getElem?_eq_getElem (by omega)⟩
     obtain ⟨kcsB,hkrB,hkcB⟩:=hky6.ex
     obtain ⟨kvB,kfB,hkvB⟩:=hkcB.at' hkkB
     obtain ⟨kaB,kcB,rfl,hksB⟩:=hkvB.sl
     have ekkB:nd.keys.getD (i) []=kkB:=by rw [List.getD_eq_getElem?_getD,hkkB];rfl
     rw [ekkB] at hch
     have hchB:=hch (by omega)
     apply T.det 16 [.int .i64 (i:Int),.pointer (some ⟨b4,2,none⟩),.slice x.a3 x.n3 x.c3,.int .i64 (x.n3:Int),.bool true,.bool true,.pointer (some ⟨b11,5,none⟩),.slice ra p.high.length rc,.pointer (some ⟨b4,2,none⟩),.slice x.a3 x.n3 x.c3,.int .i64 (i:Int),.pointer (some (at' x.a3 (i*1))),(.slice kaB kkB.length kcB),.int .i64 (dU p.high kkB),.bool false,.bool false]
      (λ wz=>Blk wz b11 228 (PtC p y (.slice qa p.low.length qc) (.slice ra p.high.length rc))∧Blk wz b8 228 [.slice x.a1 x.n1 x.c1,.slice x.a2 x.n2 x.c2,.slice x.a3 x.n3 x.c3,.int .i64 (ti.levels:Int),.slice la ti.low.length lc,.slice ra p.high.length rc]∧Blk wz b4 79 x.cs∧Blk wz b6 228 [.slice none 0 0,.slice none 0 0,.slice none 0 0,.int .i64 0,.slice none 0 0,.slice none 0 0]∧Grow w6 wz)
     ·rfl
     ·exact λ wz h1=>⟨g11.grow h1,g8.grow h1,g4.grow h1,g6.grow h1,h67.trans h1⟩
     ·clear g11 g8 g4 g6
      repeat' (first|exact gP|refine fS ?_ ?_)
      ·refine bV rfl rfl rfl ?_
       rintro wq ⟨i11,i8,i4,i6,ic⟩
       repeat (first|(refine aB ?_;refine TL.pure rfl rfl ?_)|refine TL.nil ?_)
       exact bB rfl ⟨i11,i8,i4,i6,ic⟩
      ·refine bV rfl rfl rfl ?_
       rintro wq ⟨i11,i8,i4,i6,ic⟩
       repeat (first|refine aF rfl rfl ?_|refine TL.nil ?_)
       exact bB rfl ⟨i11,i8,i4,i6,ic⟩
      ·refine bV rfl rfl rfl ?_
       rintro wq ⟨i11,i8,i4,i6,ic⟩
       repeat (first|refine aK rfl yM rfl ?_|refine TL.nil ?_)
       exact bB rfl ⟨i11,i8,i4,i6,ic⟩
      ·refine bV rfl rfl rfl ?_
       rintro wq ⟨i11,i8,i4,i6,ic⟩
       repeat (first|refine TL.nil ?_|refine aO rfl rfl ?_)
       exact bB rfl ⟨i11,i8,i4,i6,ic⟩
      ·refine bV rfl rfl rfl ?_
       rintro wq ⟨i11,i8,i4,i6,ic⟩
       repeat (first|refine TL.nil ?_|(refine aH ?_;refine bA rfl yD rfl ?_))
       exact bB rfl ⟨i11,i8,i4,i6,ic⟩
      ·refine bV rfl rfl rfl ?_
       rintro wq ⟨i11,i8,i4,i6,ic⟩
       repeat (first|(refine aB ?_;refine TL.pure rfl rfl ?_)|refine TL.nil ?_)
       exact bB rfl ⟨i11,i8,i4,i6,ic⟩
      ·refine bV rfl rfl rfl ?_
       rintro wq ⟨i11,i8,i4,i6,ic⟩
       repeat (first|refine aX rfl rfl rfl ?_|refine aF rfl rfl ?_|refine TL.nil ?_)
       exact bB rfl ⟨i11,i8,i4,i6,ic⟩
      ·refine bV rfl rfl rfl ?_
       rintro wq ⟨i11,i8,i4,i6,ic⟩
       repeat (first|refine aX rfl rfl rfl ?_|refine aK rfl yM rfl ?_|refine TL.nil ?_)
       exact bB rfl ⟨i11,i8,i4,i6,ic⟩
      ·refine bV rfl rfl rfl ?_
       rintro wq ⟨i11,i8,i4,i6,ic⟩
       repeat (first|refine aX rfl rfl rfl ?_|refine aF rfl rfl ?_|refine TL.nil ?_)
       exact bB rfl ⟨i11,i8,i4,i6,ic⟩
      ·refine bV rfl rfl rfl ?_
       rintro wq ⟨i11,i8,i4,i6,ic⟩
       repeat (first|refine aX rfl rfl rfl ?_|refine aK rfl yM rfl ?_|refine TL.nil ?_)
       exact bB rfl ⟨i11,i8,i4,i6,ic⟩
      ·refine bV rfl rfl rfl ?_
       rintro wq ⟨i11,i8,i4,i6,ic⟩
       repeat (first|refine aX rfl rfl rfl ?_|(refine aB ?_;refine TL.pure rfl rfl ?_)|refine TL.nil ?_)
       exact bB rfl ⟨i11,i8,i4,i6,ic⟩
      ·refine bV rfl rfl rfl ?_
       rintro wq ⟨i11,i8,i4,i6,ic⟩
       repeat (first|refine aX rfl rfl rfl ?_|(refine bF ?_;refine aW (j:=i) rfl rfl rfl (by omega) rfl ⟨_,_,hkrB.grow ic⟩ rfl ?_)|refine TL.nil ?_)
       exact bB rfl ⟨i11,i8,i4,i6,ic⟩
      ·refine bV rfl rfl rfl ?_
       rintro wq ⟨i11,i8,i4,i6,ic⟩
       have hcx:wq.cell? (at' x.a3 (i*1))=some (.slice kaB kkB.length kcB):=(hkrB.grow ic).row.cell (by rw [Nat.mul_one];exact kfB)
       repeat (first|refine aX rfl rfl rfl ?_|refine aK rfl yM rfl ?_|refine TL.nil ?_)
       exact bB rfl ⟨i11,i8,i4,i6,ic⟩
      ·refine bV rfl rfl rfl ?_
       rintro wq ⟨i11,i8,i4,i6,ic⟩
       refine aX rfl rfl rfl ?_
       refine aL 139 ?_
       refine aI rfl (gE _ _ ra p.high.length rc kaB kkB.length kcB p.high kkB _ (hrs6.grow ic) (hksB.grow ic)) rfl ?_
       rintro _ wr ⟨rfl,hgr⟩
       repeat (refine TL.nil ?_)
       exact bB rfl ⟨i11.grow hgr,i8.grow hgr,i4.grow hgr,i6.grow hgr,ic.trans hgr⟩
      ·refine bV rfl rfl rfl ?_
       rintro wq ⟨i11,i8,i4,i6,ic⟩
       repeat (first|refine aX rfl rfl rfl ?_|refine TL.nil ?_|(refine aH ?_;refine aR rfl yD rfl ?_))
       exact bB rfl ⟨i11,i8,i4,i6,ic⟩
      ·refine bV rfl rfl rfl ?_
       rintro wq ⟨i11,i8,i4,i6,ic⟩
       repeat (first|refine TL.nil ?_|refine TL.pure rfl rfl ?_)
       exact bB rfl ⟨i11,i8,i4,i6,ic⟩
     ·rintro w9 ⟨i11,i8,i4,i6,ic⟩
      clear g11 g8 g4 g6
      repeat (first|(refine aD ?_;refine TL.pure rfl rfl ?_)|refine TL.nil ?_|refine aA ?_|refine aT ?_|refine aE rfl ?_|refine aV ?_|refine bH ?_|refine cR ?_)
      have cz:=c6.trans (Carry.grow ic)
      refine ⟨⟨rfl,rfl,rfl,rfl,rfl,rfl,rfl,rfl,trivial⟩,.slice la ti.low.length lc,.slice ra p.high.length rc,hM6.go (Carry.grow ic) (ic.block m hM6.lt),?_,i4,i6,?_,?_,cz,b6'.trans (ButS.grow ic)⟩
      ·simp only [iP,if_neg hi0];exact i8
      ·simp only [iP,if_neg hi0];exact bl6.go (Carry.grow ic)
      ·simp only [iP,if_neg hi0];exact bh6.go (Carry.grow ic)
    ·repeat (refine aJ ?_)
     apply T.det 16 [.int .i64 (i:Int),.pointer (some ⟨b4,2,none⟩),.slice x.a3 x.n3 x.c3,.int .i64 (x.n3:Int),.bool false,.bool false,undef,undef,undef,undef,undef,undef,undef,undef,undef,.bool false]
      (λ wz=>Blk wz b11 228 (PtC p y (.slice qa p.low.length qc) (.slice ra p.high.length rc))∧Blk wz b8 228 [.slice x.a1 x.n1 x.c1,.slice x.a2 x.n2 x.c2,.slice x.a3 x.n3 x.c3,.int .i64 (ti.levels:Int),.slice la ti.low.length lc,.slice ra p.high.length rc]∧Blk wz b4 79 x.cs∧Blk wz b6 228 [.slice none 0 0,.slice none 0 0,.slice none 0 0,.int .i64 0,.slice none 0 0,.slice none 0 0]∧Grow w6 wz)
     ·rfl
     ·exact λ wz h1=>⟨g11.grow h1,g8.grow h1,g4.grow h1,g6.grow h1,h67.trans h1⟩
     ·clear g11 g8 g4 g6
      repeat' (first|exact gP|refine fS ?_ ?_)
      ·refine bV rfl rfl rfl ?_
       rintro wq ⟨i11,i8,i4,i6,ic⟩
       repeat (first|(refine aB ?_;refine TL.pure rfl rfl ?_)|refine TL.nil ?_)
       exact bB rfl ⟨i11,i8,i4,i6,ic⟩
      ·refine bV rfl rfl rfl ?_
       rintro wq ⟨i11,i8,i4,i6,ic⟩
       repeat (first|refine aF rfl rfl ?_|refine TL.nil ?_)
       exact bB rfl ⟨i11,i8,i4,i6,ic⟩
      ·refine bV rfl rfl rfl ?_
       rintro wq ⟨i11,i8,i4,i6,ic⟩
       repeat (first|refine aK rfl yM rfl ?_|refine TL.nil ?_)
       exact bB rfl ⟨i11,i8,i4,i6,ic⟩
      ·refine bV rfl rfl rfl ?_
       rintro wq ⟨i11,i8,i4,i6,ic⟩
       repeat (first|refine TL.nil ?_|refine aO rfl rfl ?_)
       exact bB rfl ⟨i11,i8,i4,i6,ic⟩
      ·refine bV rfl rfl rfl ?_
       rintro wq ⟨i11,i8,i4,i6,ic⟩
       repeat (first|refine TL.nil ?_|(refine aH ?_;refine aR rfl yD rfl ?_))
       exact bB rfl ⟨i11,i8,i4,i6,ic⟩
      ·refine bV rfl rfl rfl ?_
       rintro wq ⟨i11,i8,i4,i6,ic⟩
       repeat (first|(refine aB ?_;refine TL.pure rfl rfl ?_)|refine TL.nil ?_)
       exact bB rfl ⟨i11,i8,i4,i6,ic⟩
      ·refine bV rfl rfl rfl ?_
       rintro wq ⟨i11,i8,i4,i6,ic⟩
       repeat (first|refine bQ rfl rfl rfl ?_|refine TL.nil ?_)
       exact bB rfl ⟨i11,i8,i4,i6,ic⟩
      ·refine bV rfl rfl rfl ?_
       rintro wq ⟨i11,i8,i4,i6,ic⟩
       repeat (first|refine bQ rfl rfl rfl ?_|refine TL.nil ?_)
       exact bB rfl ⟨i11,i8,i4,i6,ic⟩
      ·refine bV rfl rfl rfl ?_
       rintro wq ⟨i11,i8,i4,i6,ic⟩
       repeat (first|refine bQ rfl rfl rfl ?_|refine TL.nil ?_)
       exact bB rfl ⟨i11,i8,i4,i6,ic⟩
      ·refine bV rfl rfl rfl ?_
       rintro wq ⟨i11,i8,i4,i6,ic⟩
       repeat (first|refine bQ rfl rfl rfl ?_|refine TL.nil ?_)
       exact bB rfl ⟨i11,i8,i4,i6,ic⟩
      ·refine bV rfl rfl rfl ?_
       rintro wq ⟨i11,i8,i4,i6,ic⟩
       repeat (first|refine bQ rfl rfl rfl ?_|refine TL.nil ?_)
       exact bB rfl ⟨i11,i8,i4,i6,ic⟩
      ·refine bV rfl rfl rfl ?_
       rintro wq ⟨i11,i8,i4,i6,ic⟩
       repeat (first|refine bQ rfl rfl rfl ?_|refine TL.nil ?_)
       exact bB rfl ⟨i11,i8,i4,i6,ic⟩
      ·refine bV rfl rfl rfl ?_
       rintro wq ⟨i11,i8,i4,i6,ic⟩
       repeat (first|refine bQ rfl rfl rfl ?_|refine TL.nil ?_)
       exact bB rfl ⟨i11,i8,i4,i6,ic⟩
      ·refine bV rfl rfl rfl ?_
       rintro wq ⟨i11,i8,i4,i6,ic⟩
       repeat (first|refine bQ rfl rfl rfl ?_|refine TL.nil ?_)
       exact bB rfl ⟨i11,i8,i4,i6,ic⟩
      ·refine bV rfl rfl rfl ?_
       rintro wq ⟨i11,i8,i4,i6,ic⟩
       repeat (first|refine bQ rfl rfl rfl ?_|refine TL.nil ?_)
       exact bB rfl ⟨i11,i8,i4,i6,ic⟩
      ·refine bV rfl rfl rfl ?_
       rintro wq ⟨i11,i8,i4,i6,ic⟩
       repeat (first|refine TL.nil ?_|refine TL.pure rfl rfl ?_)
       exact bB rfl ⟨i11,i8,i4,i6,ic⟩
     ·rintro w9 ⟨i11,i8,i4,i6,ic⟩
      clear g11 g8 g4 g6
      repeat (first|(refine aD ?_;refine TL.pure rfl rfl ?_)|refine TL.nil ?_|refine aA ?_|refine aT ?_|refine aE rfl ?_|refine aV ?_|refine bH ?_|refine cR ?_)
      have cz:=c6.trans (Carry.grow ic)
      refine ⟨⟨rfl,rfl,rfl,rfl,rfl,rfl,rfl,rfl,trivial⟩,.slice la ti.low.length lc,.slice ra p.high.length rc,hM6.go (Carry.grow ic) (ic.block m hM6.lt),?_,i4,i6,?_,?_,cz,b6'.trans (ButS.grow ic)⟩
      ·simp only [iP,if_neg hi0];exact i8
      ·simp only [iP,if_neg hi0];exact bl6.go (Carry.grow ic)
      ·simp only [iP,if_neg hi0];exact bh6.go (Carry.grow ic)
 rintro e w9 ⟨hsub,lo2,hi2,hM9,j8,j4,j6,bl9,bh9,c9,b9⟩
 refine cT (e':=[(18,_),(17,_),(16,_),(8,_),(6,_),(4,_),(2,_),(0,_)]) ?_ hsub
 clear hsub
 repeat (first|(refine aB ?_;refine TL.pure rfl rfl ?_)|(refine bJ ?_;refine bT rfl rfl (by omega) rfl ?_)|refine TL.nil ?_|refine aC ?_)
 exact bG (i+1,iP nd i ti p,M1,lo2,hi2) ⟨rfl,rfl,rfl,rfl,rfl,rfl,rfl,rfl,trivial⟩ ⟨by simp only;omega,hk2,by unfold iP;split<;>rfl,j8,j4,j6,hM9,bl9,bh9,c9,b9⟩ (by simp only;omega)
end Go.Proofs.YtfpadnmdafiddaaGreatDoor
namespace Go.V
open Go Go.RowKit
def fieldTB (P:Program) (s:TypeId) (f off ft:Nat):Bool :=
 match P.underlying s with
 | some (.struct fs)=>match fs[f]? with
  | some fd=>fd.offset==off&&fd.type==ft
  | none=>false
 | _=>false
class FieldT (P:Program) (s:TypeId) (f:Nat) (off ft:outParam Nat):Prop where
 h:fieldTB P s f off ft=true
theorem run_field {P:Program} {s f off ft m:Nat} [h:FieldT P s f off ft] [ha:Agg P ft m] (cs:List Value) (w:World) :
  (Instr.field s (.agg cs.toArray) f).run P w=.ok (.agg ((cs.drop off).take m).toArray) w:=by
 have h:=h.h
 unfold fieldTB at h
 split at h
 ·rename_i fs hu
  split at h
  ·rename_i fd hf
   simp only [Bool.and_eq_true,beq_iff_eq] at h
   obtain ⟨h1,h2⟩:=h
   simp [Instr.field,underlying,hu,hf,h1,h2,asAgg,part,ha.agg,ha.size,List.extract_toArray,List.extract]
  ·cases h
 ·cases h
section
variable [Rn]
variable {P:Program} {n:Nat} {e:dN} {w:World} {Q:dO} {ops:Array Oper} {rest:List Oper} {d:Nat} {ty:TypeId} {pos:String} {aft:Array Edge}
theorem TL.fieldV {s f off ft m:Nat} {x:Operand} {cs:List Value} [h:FieldT P s f off ft] [ha:Agg P ft m] (hx:val e x=some (.agg cs.toArray)) (hd:Nat.blt d n=true)
  (k:TL P n ops rest ((d,.agg ((cs.drop off).take m).toArray)::e) w Q):TL P n ops (⟨some d,.field s x f,ty,pos,aft,none⟩::rest) e w Q :=
 TL.run (λ a ha=>by simp [execOp,ha.eval hx,run_field]) hd k
end
end Go.V
namespace Go.Proofs.YtfpadnmdafiddaaGreatDoor
open Go Go.RowKit Go.V
instance:FieldT Tryz.prog 228 0 0 79:=⟨by kernel_rfl⟩
theorem partC_all {L:PL} {g:Pg} {b m:Nat} (hbm:b≠m∧m≠L.p∧m≠L.d∧m≠L.u∧m≠L.m):∀ f,f≤16→PartC L g b m f:=by
 intro f
 induction f with
 | zero=>exact λ hf=>part_of hf hbm (λ f' h=>by omega)
 | succ f ih =>
  intro hf
  refine part_of hf hbm (λ f' h=>?_)
  obtain rfl:f=f':=by omega
  exact branch_of (by omega) hbm (ih (by omega))
theorem sizeN_le {n:Nd} (h:cH n=true):bK n≤8:=by
 unfold cH at h
 unfold bK
 split at h
 ·obtain ⟨_,h8,_⟩:=dL h
  have:n.kids=[]:=dK.1 (by assumption)
  simp only [this,List.length_nil]
  omega
 ·obtain ⟨h0,_,h8,_⟩:=cU h
  simp only [h0,List.length_nil]
  omega
theorem tree_c {L:PL} {g:Pg} {w:World} {b m lv:Nat} {G:Nat→Prop} {M M':eN} {root:Option Nat} (h:PgAt w L g) (hbw:Blk w b 226 [.pointer (some ⟨L.p,0,none⟩),.map (some m)]) (hM:MemAt G w m M) (hbm:b≠m∧m≠L.p∧m≠L.d∧m≠L.u∧m≠L.m)
  (hGm:∀ k,G k→k≠m) (hGw:∀ k,w.heap.size≤k→G k) (hr:∀ n,root=some n→n<4294967296) (ht:treeP g root M=some (lv,M')) :
  Calls Tryz.prog 88 #[.pointer (some ⟨b,0,none⟩),.int .i64 (dD root)] w (Ret λ v w'=>v=.tuple #[.int .i64 (lv:Int),.int .i64 0]∧MemAt G w' m M'∧ButS (λ k=>k=m) w w'):=by
 have hml:=hM.lt
 have hbl:=hbw.lt
 have hlts:=h.lts
 refine V.calls (args:=[_,_]) Tryz.func88 rfl Tryz.ntmps88 rfl rfl ?_
 cases root with
 | none =>
  unfold treeP at ht
  simp only [Option.some.injEq,Prod.mk.injEq] at ht
  obtain ⟨rfl,rfl⟩:=ht
  simp only [dD]
  repeat (first|(refine aL 93 ?_;refine aI rfl (ready_c h (-1) (by omega) (by omega)) rfl ?_;rintro _ _ ⟨rfl,rfl⟩)|(refine aB ?_;refine TL.pure rfl rfl ?_)|(refine aD ?_;refine TL.pure rfl rfl ?_)|refine aK rfl yM rfl ?_|refine aF rfl rfl ?_|refine TL.nil ?_|refine aA ?_|refine aJ ?_|refine aC ?_|(refine aH ?_;first|refine bA rfl yD rfl ?_|refine aR rfl yD rfl ?_)|refine bL rfl rfl ?_|refine aN rfl ?_|refine aE rfl ?_|refine bC ?_|refine aV ?_|refine bI ?_)
  exact jS rfl rfl ⟨_,rfl,rfl,hM,ButS.grow (Grow.refl _)⟩
 | some n =>
  unfold treeP at ht
  simp only at ht
  split at ht
  ·cases ht
  rename_i t M1 hp
  split at ht
  ·cases ht
  rename_i hz
  simp only [Option.some.injEq,Prod.mk.injEq] at ht
  obtain ⟨rfl,rfl⟩:=ht
  simp only [dD]
  have hn:=hr n rfl
  repeat (first|(refine aL 93 ?_;refine aI rfl (ready_c h (n:Int) (by omega) (by omega)) rfl ?_;rintro _ _ ⟨rfl,rfl⟩)|(refine aB ?_;refine TL.pure rfl rfl ?_)|(refine aD ?_;refine TL.pure rfl rfl ?_)|refine aK rfl yM rfl ?_|refine aF rfl rfl ?_|refine TL.nil ?_|refine aA ?_|refine aJ ?_|refine aC ?_|(refine aH ?_;refine aR rfl yD rfl ?_)|refine bL rfl rfl ?_|refine aE rfl ?_|refine aV ?_)
  refine aL 156 ?_
  refine aI rfl (partC_all hbm 16 (Nat.le_refl _) w G M M1 n t h hbw hM hGm hGw hn hp) rfl ?_
  rintro _ w1 ⟨⟨x,lo,hi,rfl,hpa⟩,hM1,hb1⟩
  obtain ⟨la,lc,rfl,hls⟩:=hpa.lo.sl
  obtain ⟨ha,hc,rfl,hhs⟩:=hpa.hi.sl
  have hpa2:=hpa.nd
  obtain ⟨nn1,nn2,nn3⟩:=hpa2.nums
  have z1:=hb1.size
  have hokz:=sizeN_le hpa.ok
  have hnz:(((x.n1+x.n2:Nat):Int)==0)=false:=by
   rw [beq_eq_false_iff_ne];unfold bK at hz;omega
  repeat (first|(refine aL 83 ?_;refine aI rfl (iJ _ _ (by unfold bK at hokz;omega) (by unfold bK at hokz;omega)) rfl ?_;rintro _ _ ⟨rfl,hgc⟩)|(refine aB ?_;refine TL.pure rfl rfl ?_)|(refine aD ?_;refine TL.pure rfl rfl ?_)|(refine aU ?_;first|refine aK rfl yM rfl ?_|refine lY rfl yB (by exact rfl) (by exact rfl) rfl ?_)|refine aF rfl rfl ?_|refine TL.nil ?_|refine aA ?_|refine aJ ?_|refine aC ?_|(refine aH ?_;refine aR rfl yD rfl ?_)|(refine aP ?_;(refine aY rfl rfl yB (by exact rfl) (by exact rfl) (by exact rfl) ?_;intro w' hu hbk hsz))|(refine bD ?_;(refine TL.alloc rfl rfl ?_;intro bk w' hg hbk hsz hsz'))|refine aE rfl ?_|refine bC ?_|refine aV ?_|refine TL.pure rfl rfl ?_)
  have hgr:=(aZ hu (by omega) hg).trans hgc
  exact jS rfl rfl ⟨_,rfl,rfl,hM1.go (Carry.grow hgr) (hgr.block m (by omega)),hb1.trans (ButS.grow hgr)⟩
theorem wnode_c {w:World} {b m n p:Nat} {G:Nat→Prop} {M:eN} {t:Part} (hbw:Blk w b 226 [.pointer (some ⟨p,0,none⟩),.map (some m)]) (hM:MemAt G w m M) (hn:n<4294967296) (ht:fH M n=some t) :
  Calls Tryz.prog 163 #[.pointer (some ⟨b,0,none⟩),.int .i64 (n:Int)] w (Ret λ v w'=>∃ x:NV,v=x.val∧NdAt G w' x t.node∧Grow w w'):=by
 have hbl:=hbw.lt
 obtain ⟨fm,hmf,hm0,hm1⟩:=id hM
 have hml:=hmf.lt
 obtain ⟨x,lo,hi,hfn,hpa⟩:=hm1 n t ht
 refine V.calls (args:=[_,_]) Tryz.func163 rfl Tryz.ntmps163 rfl rfl ?_
 repeat (first|(refine kI ?_;refine TL.lookup1 rfl rfl (hmf.grow hg) hfn (by omega) rfl ?_)|(refine aB ?_;refine TL.pure rfl rfl ?_)|refine aK rfl yM rfl ?_|refine aF rfl rfl ?_|refine TL.nil ?_|refine aA ?_|refine aJ ?_|refine aC ?_|(refine bD ?_;(refine TL.alloc rfl rfl ?_;intro bk w' hg hbk hsz hsz'))|refine bL rfl rfl ?_)
 refine TL.fieldV (cs:=PtC t x lo hi) rfl rfl ?_
 repeat (first|refine TL.nil ?_|refine aA ?_|(refine aP ?_;(refine aY rfl rfl yB (by exact rfl) (by exact rfl) (by exact rfl) ?_;intro w' hu hbk hsz))|refine bC ?_)
 have hgr:Grow w w':=aZ hu (by omega) (by assumption)
 exact retC rfl (bY hbk rfl) ⟨_,rfl,x,rfl,hpa.nd.go (Carry.grow hgr),hgr⟩
theorem mem_new {w w':World} {b p m:Nat} (h:WkAt w b p m (λ _=>none)) {G:Nat→Prop}:MemAt G w m [] :=
 ⟨_,h.map,λ _ _=>rfl,λ n t ht=>by cases ht⟩
theorem grow_buts {w w0 w1:World} {m:Nat} (hg:Grow w w0) (h:ButS (λ k=>k=m) w0 w1) (hm:w.heap.size≤m):Grow w w1 :=
 ⟨⟨h.os.trans hg.1.os,h.tape.trans hg.1.tape,h.output.trans hg.1.output,by have:=hg.2;have:=h.size;omega,λ k hk=>(h.block k (by have:=hg.2;omega) (by omega)).trans (hg.block k hk)⟩,by have:=hg.2;have:=h.size;omega⟩
theorem walked_c {L:PL} {g:Pg} {w w0:World} {lv b m:Nat} {M':eN} {root:Option Nat} (h:PgAt w L g) (hg:Grow w w0) (hk:WkAt w0 b L.p m (λ _=>none)) (hb:w.heap.size≤b) (hm:w.heap.size≤m) (hr:∀ n,root=some n→n<4294967296) (ht:treeP g root []=some (lv,M')) :
  Calls Tryz.prog 88 #[.pointer (some ⟨b,0,none⟩),.int .i64 (dD root)] w0 (Ret λ v w'=>v=.tuple #[.int .i64 (lv:Int),.int .i64 0]∧MemAt (λ k=>k≠m) w' m M'∧Blk w' b 226 [.pointer (some ⟨L.p,0,none⟩),.map (some m)]∧Grow w w'):=by
 have hlts:=h.lts
 have hml:=hk.map.lt
 refine Calls.mono (tree_c (h.grow hg) hk.blk (mem_new (w':=w0) hk) ⟨hk.ne,by omega,by omega,by omega,by omega⟩ (λ k hk=>hk) (λ k hk=>by omega) hr ht) (λ x w' hx=>Ret.mono hx λ v w' hv=>?_)
 obtain ⟨rfl,hM,hbs⟩:=hv
 exact ⟨rfl,hM,dC hk.blk hbs hk.ne,grow_buts hg hbs hm⟩
end Go.Proofs.YtfpadnmdafiddaaGreatDoor
namespace Go.Proofs.YtfpadnmdafiddaaGreatDoor
theorem Vt.height {s:Pg}:∀ {h h':Nat} {nd:Nd} {l l':dS} {ps ps':List Nat},Vt s h nd l ps→Vt s h' nd l' ps'→h=h'
 | 0,h',nd,_,_,_,_,a,b=>by
  have:=b.leaf.1 (a.leaf.2 rfl)
  omega
 | h+1,0,nd,_,_,_,_,a,b=>by
  have:=a.leaf.1 (b.leaf.2 rfl)
  omega
 | h+1,h'+1,nd,_,_,_,_,⟨ls,e1,e2,e3,_,_,_,_,e8⟩,⟨ls',f1,f2,f3,_,_,_,_,f8⟩=>by
  rw [e2] at f2
  cases ls with
  | nil=>cases e3
  | cons x r =>
   cases ls' with
   | nil=>cases f3
   | cons y r' =>
    simp only [List.map_cons,List.cons.injEq] at f2
    obtain ⟨n1,g1,_,g3⟩:=e8 x (by simp)
    obtain ⟨n2,k1,_,k3⟩:=f8 y (by simp)
    rw [f2.1,k1] at g1
    cases g1
    have:=g3.height k3
    omega
theorem Vt.many {s:Pg}:∀ {h:Nat} {nd:Nd} {l:dS} {ps:List Nat},Vt s h nd l ps→bK nd*4^h≤l.length
 | 0,nd,l,ps,h=>by obtain ⟨rfl,_⟩:=h;simp [bK]
 | h+1,nd,l,ps,⟨ls,e1,e2,e3,e4,e5,e6,e7,e8⟩=>by
  have hz:bK nd=ls.length:=by simp [bK,e1,e2]
  rw [hz,e6]
  clear e6 e3 hz e2 e4 e5 e7
  induction ls with
  | nil=>simp
  | cons x r ih =>
   obtain ⟨nd',g1,g2,g3⟩:=e8 x (by simp)
   have h1:=g3.many
   have h2:=ih (λ y hy=>e8 y (List.mem_cons_of_mem _ hy))
   have h3:4*4^h≤bK nd'*4^h:=Nat.mul_le_mul_right _ g2
   simp only [List.flatMap_cons,List.length_append,List.length_cons,Nat.pow_succ] at h2 ⊢
   have h4:(r.length+1)*(4^h*4)=r.length*(4^h*4)+4^h*4:=by rw [Nat.add_mul,Nat.one_mul]
   omega
theorem Vt.pages {s:Pg}:∀ {h:Nat} {nd:Nd} {l:dS} {ps:List Nat},Vt s h nd l ps→3*ps.length+bK nd≤l.length
 | 0,nd,l,ps,h=>by obtain ⟨rfl,rfl,_⟩:=h;simp [bK]
 | h+1,nd,l,ps,⟨ls,e1,e2,e3,e4,e5,e6,e7,e8⟩=>by
  have hz:bK nd=ls.length:=by simp [bK,e1,e2]
  rw [hz,e6,e7]
  clear e6 e3 hz e2 e7 e4 e5
  induction ls with
  | nil=>simp
  | cons x r ih =>
   obtain ⟨nd',g1,g2,g3⟩:=e8 x (by simp)
   have h1:=g3.pages
   have h2:=ih (λ y hy=>e8 y (List.mem_cons_of_mem _ hy))
   simp only [List.flatMap_cons,List.length_append,List.length_cons] at h2 ⊢
   omega
theorem Vt.below {s:Pg}:∀ {h:Nat} {nd:Nd} {l:dS} {ps:List Nat},Vt s h nd l ps→∀ p∈ps,∃ h' nd' l' ps',h'<h∧dQ s p=some nd'∧Vt s h' nd' l' ps'
 | 0,nd,l,ps,h,p,hp=>by obtain ⟨_,rfl,_⟩:=h;cases hp
 | h+1,nd,l,ps,⟨ls,e1,e2,e3,_,_,e6,e7,e8⟩,p,hp=>by
  rw [e7] at hp
  obtain ⟨x,hx,hpx⟩:=List.mem_flatMap.1 hp
  obtain ⟨nd',g1,g2,g3⟩:=e8 x hx
  rcases List.mem_cons.1 hpx with rfl|hpx
  ·exact ⟨h,nd',_,_,by omega,g1,g3⟩
  ·obtain ⟨h',n',l',ps',q1,q2,q3⟩:=g3.below p hpx
   exact ⟨h',n',l',ps',by omega,q2,q3⟩
def TrAt (s:Pg):Option Nat→Nat→dS→List Nat→Prop
 | none,lv,l,ps=>lv=0∧l=[]∧ps=[]
 | some n,lv,l,ps=>∃ h nd ps',lv=h+1∧dQ s n=some nd∧Vt s h nd l ps'∧1≤bK nd∧ps=n::ps'
theorem TrAt.ext {s s':Pg} (hx:Ext s s') {r:Option Nat} {lv:Nat} {l:dS} {ps:List Nat} (h:TrAt s r lv l ps):TrAt s' r lv l ps:=by
 cases r with
 | none=>exact h
 | some n =>
  obtain ⟨h,nd,ps',e1,e2,e3,e4,e5⟩:=h
  exact ⟨h,nd,ps',e1,hx.node e2,e3.ext hx,e4,e5⟩
theorem TrAt.items {s:Pg} {r:Option Nat} {lv:Nat} {l:dS} {ps:List Nat} (h:TrAt s r lv l ps):∀ x∈l,dR x.1=true∧gH x.2=true:=by
 cases r with
 | none=>rw [h.2.1];intro x hx;cases hx
 | some n=>obtain ⟨h,nd,ps',e1,e2,e3,e4,e5⟩:=h;exact e3.items
theorem TrAt.lt {s:Pg} (hs:PgOk s) {n lv:Nat} {l:dS} {ps:List Nat} (h:TrAt s (some n) lv l ps):n<8192:=by
 obtain ⟨h,nd,ps',e1,e2,e3,e4,e5⟩:=h
 have:=eF (eQ e2)
 have:=hs.cnt
 omega
theorem TrAt.many {s:Pg} {r:Option Nat} {lv:Nat} {l:dS} {ps:List Nat} (h:TrAt s r lv l ps) (h2:2≤lv):2*4^(lv-1)≤l.length:=by
 cases r with
 | none=>have:=h.1;omega
 | some n =>
  obtain ⟨h,nd,ps',rfl,e2,e3,e4,e5⟩:=h
  have h1:=e3.many
  have hz:2≤bK nd:=by
   have hok:=iO e2
   obtain ⟨h,rfl⟩:∃ g,h=g+1:=⟨h-1,by omega⟩
   have hl:¬ cK nd=true:=λ e=>by have:=e3.leaf.1 e;omega
   unfold cH at hok
   rw [if_neg hl] at hok
   obtain ⟨_,w2,_⟩:=cU hok
   unfold bK
   omega
  have h3:2*4^h≤bK nd*4^h:=Nat.mul_le_mul_right _ hz
  rw [Nat.add_sub_cancel]
  omega
theorem TrAt.pages {s:Pg} {r:Option Nat} {lv:Nat} {l:dS} {ps:List Nat} (h:TrAt s r lv l ps):3*ps.length≤l.length+2:=by
 cases r with
 | none=>rw [h.2.2];simp
 | some n =>
  obtain ⟨h,nd,ps',rfl,e2,e3,e4,rfl⟩:=h
  have:=e3.pages
  simp only [List.length_cons]
  omega
theorem TrAt.levels {s:Pg} {r:Option Nat} {lv k:Nat} {l:dS} {ps:List Nat} (h:TrAt s r lv l ps) (hk:1≤k) (hl:l.length<2*4^k):lv≤k:=by
 by_cases h2:lv≤k
 ·exact h2
 ·have h3:=h.many (by omega)
  have h4:4^k≤4^(lv-1):=Nat.pow_le_pow_right (by omega) (by omega)
  omega
theorem Ext.spare {s s':Pg} (h:Ext s s'):cP s'≤cP s:=by
 unfold cP
 have:iL s≤iL s':=by
  unfold iL
  rw [h.count,← List.countP_eq_length_filter,← List.countP_eq_length_filter]
  exact List.countP_mono_left λ n _ hn=>(h.used n hn).1
 rw [h.count]
 omega
theorem TrAt.empty {s:Pg} {r:Option Nat} {lv:Nat} {l:dS} {ps:List Nat} (h:TrAt s r lv l ps):r=none↔l=[]:=by
 cases r with
 | none=>exact Iff.intro (λ _=>h.2.1) (λ _=>rfl)
 | some n =>
  obtain ⟨h,nd,ps',e1,e2,e3,e4,e5⟩:=h
  exact Iff.intro (λ e=>by cases e) (λ e=>absurd e (e3.ne e4))
theorem put_tr {s:Pg} {r:Option Nat} {lv:Nat} {l:dS} {ps:List Nat} (hs:PgOk s) (h:TrAt s r lv l ps) {key v:Bs} (hk:dR key=true) (hv:gH v=true) (hlv:lv≤16) (hsp:2*lv+1≤cP s) :
  ∃ n s' lv' ps',putP s r key v=some (n,s')∧Ext s s'∧PgOk s'∧TrAt s' (some n) lv' (hE key v l) ps'∧cP s'+lv+ps'.length=cP s+ps.length∧cP s≤cP s'+(2*lv+1)∧cP s'≤cP s:=by
 cases r with
 | none =>
  obtain ⟨rfl,rfl,rfl⟩:=h
  have hok:cH ⟨[(key,v)],[],[]⟩=true:=leaf_ok (List.pairwise_singleton _ _) (λ x hx=>by
   rw [List.mem_singleton] at hx;subst hx;exact ⟨hk,hv⟩) (by simp)
  obtain ⟨n,s',e,hw⟩:=eY hs (by omega) hok
  have:=hw.spare
  refine ⟨n,s',1,[n],by simpa [putP] using e,hw.ext,hw.ok,⟨0,_,[],rfl,hw.node,⟨rfl,rfl,List.pairwise_singleton _ _,λ x hx=>by
   simp only [hE,List.mem_singleton] at hx;subst hx;exact ⟨hk,hv⟩⟩,by simp [bK,hE],rfl⟩,by simp;omega,by omega,by omega⟩
 | some n =>
  obtain ⟨h,nd,ps',rfl,e2,e3,e4,rfl⟩:=h
  obtain ⟨fr,th,q1,_,q3,up,s',uls,q4,q5,q6,q7⟩:=put_up key v hk hv h (f:=16) hs e2 e3 (by omega) e4 (by omega)
  have hup:∀ {z:Option (Nat×Pg)},(match up.kids with | [k]=>some (k,s')|_=>fU s' up)=z→putP s (some n) key v=z:=by
   intro z hz
   simp only [putP,q1,q4]
   exact hz
  have hlen:=q5.len
  have htwo:=q5.two
  simp only [List.length_cons]
  match uls,q5,hlen,htwo,q6,q7 with
  | [],q5,hlen,_,_,_=>simp at hlen
  | [x],q5,hlen,_,q6,q7 =>
   obtain ⟨nd',g1,g2,g3⟩:=q5.sub x (by simp)
   have hz:1≤bK nd':=by omega
   have hi:hE key v l=x.its:=by rw [q5.its];simp
   rw [pgs_one] at q6 q7
   simp only [List.length_cons] at q6 q7
   refine ⟨x.page,s',h+1,x.page::x.ps,hup (by rw [q5.kids];rfl),q5.ext,q5.ok,⟨h,nd',x.ps,rfl,g1,by rw [hi];exact g3,hz,rfl⟩,by simp only [List.length_cons];omega,by omega,q5.ext.spare⟩
  | [x,y],q5,hlen,_,q6,q7 =>
   have hbig:=q5.big rfl
   have hvt:Vt s' (h+1) up (hE key v l) (pgs [x,y]):=⟨[x,y],q5.items,q5.kids,q5.len,q5.toks,q5.keys,q5.its,rfl,λ z hz=>by
    obtain ⟨n1,g1,g2,g3⟩:=q5.sub z hz
    obtain ⟨n2,g4,g5⟩:=hbig z hz
    rw [g1] at g4
    cases g4
    exact ⟨n1,g1,g5,g3⟩⟩
   have hz2:bK up=2:=by simp [bK,q5.items,q5.kids]
   have hok:=hvt.ok q5.ok (.inl (by omega)) (by omega)
   obtain ⟨m,s2,w1,w2⟩:=eY q5.ok (by simp [pgs] at q6 q7;omega) hok
   have:=w2.spare
   refine ⟨m,s2,h+2,m::pgs [x,y],hup (by rw [q5.kids];exact w1),q5.ext.trans w2.ext,w2.ok,⟨h+1,up,_,rfl,w2.node,hvt.ext w2.ext,by omega,rfl⟩,by simp only [List.length_cons];omega,by omega,(q5.ext.trans w2.ext).spare⟩
  | x::y::z::r,q5,hlen,htwo,_,_=>simp at htwo
theorem del_tr {s:Pg} {n lv:Nat} {l:dS} {ps:List Nat} (hs:PgOk s) (h:TrAt s (some n) lv l ps) {key:Bs} (hkey:∃ x∈l,x.1=key) (hlv:lv≤16) (hsp:2*lv+1≤cP s) :
  ∃ fr r s' lv' ps',hZ s key 16 n=some (fr,true)∧delP s fr=some (r,s')∧Ext s s'∧PgOk s'∧TrAt s' r lv' (iK key l) ps'∧cP s≤cP s'+(2*lv+1)∧cP s'≤cP s:=by
 obtain ⟨h,nd,ps',rfl,e2,e3,e4,rfl⟩:=h
 obtain ⟨fr,q1,_,low,s',ps2,q2,q3,q4,q5,q6,q7,q8,q9⟩:=del_up key h (f:=16) hs e2 e3 (by omega) (by omega) hkey
 have h8:=node_le e2
 have hup:∀ {z:Option (Option Nat×Pg)},(if bK low=0 then some (none,s') else match low.kids with
   | [k]=>some (some k,s')
   | _=>match fU s' low with
    | none=>none
    | some (p,s2)=>some (some p,s2))=z→delP s fr=z:=by
  intro z hz
  simp only [delP,q2]
  exact hz
 by_cases h0:bK low=0
 ·refine ⟨fr,none,s',0,[],q1,hup (by rw [if_pos h0]),q3,q4,⟨rfl,?_,rfl⟩,by omega,q9⟩
  cases h with
  | zero=>obtain ⟨rfl,_⟩:=q5;exact List.eq_nil_of_length_eq_zero (by simpa [bK] using h0)
  | succ h =>
   obtain ⟨ls,f1,f2,f3,_⟩:=q5
   simp [bK,f1,f2] at h0
   rw [h0] at f3
   cases f3
 ·have hdl:iK key l≠[]:=q5.ne (by omega)
  by_cases hk1:low.kids.length=1
  ·cases h with
   | zero=>obtain ⟨rfl,_⟩:=q5;simp at hk1
   | succ h =>
    obtain ⟨ls,f1,f2,f3,f4,f5,f6,f7,f8⟩:=q5
    rw [f2,List.length_map] at hk1
    match ls,f2,f6,f7,f8,hk1 with
    | [x],f2,f6,f7,f8,_ =>
     obtain ⟨nd',g1,g2,g3⟩:=f8 x (by simp)
     have hi:iK key l=x.its:=by rw [f6];simp
     exact ⟨fr,some x.page,s',h+1,_,q1,hup (by rw [if_neg h0,f2];rfl),q3,q4,⟨h,nd',x.ps,rfl,g1,by rw [hi];exact g3,by omega,rfl⟩,by omega,q9⟩
  ·have hok:=q5.ok q4 (by
    cases h with
    | zero=>exact .inr rfl
    | succ h =>
     left
     obtain ⟨ls,f1,f2,_⟩:=q5
     simp only [bK,f1,List.length_nil,Nat.zero_add] at h0 ⊢
     omega) (by omega)
   obtain ⟨m,s2,w1,w2⟩:=eY q4 (by omega) hok
   have:=w2.spare
   refine ⟨fr,some m,s2,h+1,_,q1,hup ?_,q3.trans w2.ext,w2.ok,⟨h,low,ps2,rfl,w2.node,q5.ext w2.ext,by omega,rfl⟩,by omega,by omega⟩
   rw [if_neg h0]
   split
   ·rename_i k hk;rw [hk] at hk1;simp at hk1
   ·rw [w1]
theorem path_tr (key:Bs):∀ (h:Nat) {s:Pg} {n f:Nat} {nd:Nd} {l:dS} {ps:List Nat},dQ s n=some nd→Vt s h nd l ps→h<f →
  ∃ fr th,hZ s key f n=some (fr,th)∧fr.length=h+1∧(th=true↔∃ x∈l,x.1=key)∧∀ v,(key,v)∈l→∃ nd i,fr[h]? = some (nd,i)∧nd.items[i]? = some (key,v)
 | 0,s,n,f,nd,l,ps,hn,hv,hf=>by
  obtain ⟨rfl,rfl,h3,h4⟩:=hv
  obtain ⟨f,rfl⟩:∃ g,f=g+1:=⟨f-1,by omega⟩
  refine ⟨[(⟨l,[],[]⟩,fX l key)],gA l key,by simp only [hZ,hn];rfl,rfl,mV key h3,λ v hv=>⟨_,_,rfl,?_⟩⟩
  have ht:=(mV key h3).2 ⟨_,hv,rfl⟩
  unfold gA at ht
  split at ht
  ·cases ht
  ·rename_i x hx
   simp only [decide_eq_true_eq] at ht
   simp only
   rw [hx]
   have e1:x.1=key:=cmpB_eq ht
   have hxm:=List.mem_of_getElem? hx
   have:x=(key,v):=by
    obtain ⟨i,hi,e⟩:=List.mem_iff_getElem.1 hxm
    obtain ⟨j,hj,e'⟩:=List.mem_iff_getElem.1 hv
    rcases Nat.lt_trichotomy i j with g|g|g
    ·have:=(List.pairwise_iff_getElem.1 h3) i j hi hj g
     rw [e,e',e1] at this
     exact absurd this (dF _)
    ·subst g;rw [← e,← e']
    ·have:=(List.pairwise_iff_getElem.1 h3) j i hj hi g
     rw [e,e',e1] at this
     exact absurd this (dF _)
   rw [this]
 | h+1,s,n,f,nd,l,ps,hn,hv,hf=>by
  have hlf:cK nd=false:=by
   cases hh:cK nd with
   | false=>rfl
   | true=>have:=hv.leaf.1 hh;omega
  obtain ⟨ls,e1,e2,e3,e4,e5,e6,e7,e8⟩:=hv
  obtain ⟨f,rfl⟩:∃ g,f=g+1:=⟨f-1,by omega⟩
  obtain ⟨la,x,lb,ka,kb,a1,a2,a3,a4,a5,a6,a7,a8⟩:=kid_split e3 e4 key
  obtain ⟨ndx,x1,x2,x3⟩:=e8 x (by rw [a1];simp)
  obtain ⟨fr,th,i1,i2,i3,i4⟩:=path_tr key h (s:=s) (n:=x.page) (f:=f) x1 x3 (by omega)
  have hkid:nd.kids[iR nd.keys key]? = some x.page:=by
   rw [e2,a1,← a3]
   simp
  have hlt:=TK_its a4.symm a6
  have hgt:=KT_its a5 a7
  have hflat:l=la.flatMap (·.its)++(x.its++lb.flatMap (·.its)):=by rw [e6,a1];simp
  have hin:∀ y∈l,y.1=key→y∈x.its:=by
   intro y hy e
   rw [hflat] at hy
   rcases List.mem_append.1 hy with hy|hy
   ·exact absurd (hlt y hy) (by rw [e];exact dF _)
   ·rcases List.mem_append.1 hy with hy|hy
    ·exact hy
    ·exact absurd (hgt y hy) (by rw [e];exact dF _)
  refine ⟨(nd,iR nd.keys key)::fr,th,?_,by simp [i2],?_,?_⟩
  ·simp only [hZ,hn,hlf,Bool.false_eq_true,if_false,hkid,i1]
  ·rw [i3]
   exact ⟨λ ⟨y,hy,e⟩=>⟨y,by rw [hflat];simp [hy],e⟩,λ ⟨y,hy,e⟩=>⟨y,hin y hy e,e⟩⟩
  ·intro v hv
   obtain ⟨nd',i,g1,g2⟩:=i4 v (hin _ hv rfl)
   exact ⟨nd',i,by simpa using g1,g2⟩
end Go.Proofs.YtfpadnmdafiddaaGreatDoor
