import Derived.Test.YtfpadnmdafiddaaGreatDoorMn
set_option linter.all false
set_option maxHeartbeats 16000000
set_option maxRecDepth 100000
namespace Go.Proofs.YtfpadnmdafiddaaGreatDoor
theorem del_eq (key:Bs):∀ {l:dO},Srt l→gF l key=true→cO l (gD l key) (gD l key+1)=gV key l
 | [],_,h=>by simp [gF,gD] at h
 | x::l,h,ht=>by
  obtain ⟨h1,h2⟩:=List.pairwise_cons.1 h
  rw [lL]
  rw [thereN_cons] at ht
  by_cases hx:hX x.1 key
  ·rw [if_pos hx] at ht ⊢
   have hne:x.1≠key:=λ e=>by rw [e] at hx;exact dC _ hx
   have ih:=del_eq key h2 ht
   simp only [gV,List.filter_cons,hne,ne_eq,not_false_eq_true,decide_true,if_true] at ih ⊢
   rw [← ih]
   simp [cO]
  ·rw [if_neg hx] at ht ⊢
   have e:x.1=key:=by simpa using ht
   have hd:gV key (x::l)=gV key l:=by simp [gV,e]
   rw [hd,delI_same λ y hy e2=>by
    have:=h1 y hy
    rw [e,e2] at this
    exact dC _ this]
   simp [cO]
theorem del_len (key:Bs):∀ {l:dO},Srt l→l.length≤(gV key l).length+1
 | [],_=>by simp
 | x::l,h=>by
  obtain ⟨h1,h2⟩:=List.pairwise_cons.1 h
  by_cases e:x.1=key
  ·have:gV key l=l:=delI_same λ y hy e2=>by
    have:=h1 y hy
    rw [e,e2] at this
    exact dC _ this
   simp only [gV,List.filter_cons,e,ne_eq,not_true_eq_false,decide_false,Bool.false_eq_true,if_false,List.length_cons] at this ⊢
   rw [this]
   omega
  ·have:=del_len key h2
   simp only [gV,List.filter_cons,e,ne_eq,not_false_eq_true,decide_true,if_true,List.length_cons] at this ⊢
   omega
theorem delI_le (key:Bs) (l:dO):(gV key l).length≤l.length:=List.length_filter_le _ _
theorem TK_snoc {y:Sb} {k:Bs}:∀ {la:List Sb} {ka:List Bs},la.length=ka.length→TK (la++[y]) (ka++[k])=TK la ka++[.T y,.K k]
 | [],[],_=>rfl
 | [],_::_,h=>by cases h
 | _::_,[],h=>by cases h
 | x::la,c::ka,h=>by
  simp only [List.cons_append,TK]
  rw [TK_snoc (by simpa using h)]
theorem cut_row {A B:List Sb} {KA KB:List Bs} {k:Bs} (h1:A.length=KA.length+1) (h2:B.length=KB.length+1) (hp:(toks (A++B) (KA++k::KB)).Pairwise RT) :
  (toks A KA).Pairwise RT∧(toks B KB).Pairwise RT∧(∀ a∈A.flatMap (·.its),hX a.1 k)∧∀ b∈B.flatMap (·.its),kle k b.1:=by
 have hb0:B≠[]:=by intro e;subst e;cases h2
 rw [toks_join h1 hb0] at hp
 obtain ⟨p1,p2,p3⟩:=List.pairwise_append.1 hp
 obtain ⟨p4,p5⟩:=List.pairwise_cons.1 p2
 refine ⟨p1,p5,λ a ha=>?_,λ b hb=>?_⟩
 ·obtain ⟨x,hx,hax⟩:=List.mem_flatMap.1 ha
  exact p3 (.T x) (T_mem h1 hx) (.K k) (by simp) a hax
 ·obtain ⟨x,hx,hbx⟩:=List.mem_flatMap.1 hb
  exact p4 (.T x) (T_mem h2 hx) b hbx
structure Pc where
 nd:Nd
 its:dO
 ps:List Nat
def onPage (p:Nat) (x:Pc):Sb:=⟨p,x.its,x.ps⟩
structure Mend (s:Pg) (h:Nat) (l:dO) (nds:List Nd) (ks:List Bs):Prop where
 ex:∃ out:List Pc,nds=out.map (·.nd)∧out.length=ks.length+1∧out.length≤2∧(∀ k∈ks,dB k=true)∧l=out.flatMap (·.its) ∧
  (∀ o∈out,Vt s h o.nd o.its o.ps∧4≤bJ o.nd∧bJ o.nd≤8)∧∀ ps:List Nat,ps.length=out.length→(toks (List.zipWith onPage ps out) ks).Pairwise RT
theorem mend_one {s:Pg} {h:Nat} {nd:Nd} {l:dO} {ps:List Nat} (hv:Vt s h nd l ps) (h4:4≤bJ nd) (h8:bJ nd≤8):Mend s h l [nd] [] :=
 ⟨[⟨nd,l,ps⟩],rfl,rfl,by simp,by simp,by simp,λ o ho=>by simp only [List.mem_singleton] at ho;subst ho;exact ⟨hv,h4,h8⟩,λ ps hps=>by
  match ps,hps with
  | [p],_=>simp [toks,KT]⟩
theorem mend_two {s:Pg} {h:Nat} {a b:Nd} {la lb:dO} {pa pb:List Nat} {k:Bs} (ha:Vt s h a la pa) (hb:Vt s h b lb pb) (ka:dB k=true) (h1:∀ x∈la,hX x.1 k) (h2:∀ x∈lb,kle k x.1)
  (a4:4≤bJ a) (a8:bJ a≤8) (b4:4≤bJ b) (b8:bJ b≤8):Mend s h (la++lb) [a,b] [k] :=
 ⟨[⟨a,la,pa⟩,⟨b,lb,pb⟩],rfl,rfl,by simp,by simpa using ka,by simp,λ o ho=>by
  simp only [List.mem_cons,List.not_mem_nil,or_false] at ho
  rcases ho with rfl|rfl
  ·exact ⟨ha,a4,a8⟩
  ·exact ⟨hb,b4,b8⟩,λ ps hps=>by
  match ps,hps with
  | [p,q],_ =>
   simp only [List.zipWith_cons_cons,List.zipWith_nil_left,toks,KT,onPage]
   have r1:RT (.T ⟨p,la,pa⟩) (.K k):=h1
   have r2:RT (.K k) (.T ⟨q,lb,pb⟩):=h2
   refine List.pairwise_cons.2 ⟨λ t ht=>?_,List.pairwise_cons.2 ⟨λ t ht=>?_,List.pairwise_cons.2 ⟨λ t ht=>(by cases ht),List.Pairwise.nil⟩⟩⟩
   ·rcases List.mem_cons.1 ht with rfl|ht
    ·exact r1
    ·rcases List.mem_cons.1 ht with rfl|ht
     ·exact RT_K r1 r2
     ·cases ht
   ·rcases List.mem_cons.1 ht with rfl|ht
    ·exact r2
    ·cases ht⟩
theorem Vt.leaf {s:Pg} {h:Nat} {nd:Nd} {l:dO} {ps:List Nat} (hv:Vt s h nd l ps):cK nd=true↔h=0:=by
 cases h with
 | zero=>obtain ⟨rfl,_⟩:=hv;simp [cK]
 | succ h =>
  obtain ⟨ls,e1,e2,e3,_⟩:=hv
  rw [dK,e2]
  cases ls with
  | nil=>cases e3
  | cons _ _=>simp
theorem last_take {α : Type} {l:List α} {d : α} (h:l≠[]):l=l.take (l.length-1)++[l.getD (l.length-1) d]:=by
 have hl:l.length-1<l.length:=by have:=List.length_pos_iff.2 h;omega
 have e:l.getD (l.length-1) d=l[l.length-1]:=by simp [List.getD_eq_getElem?_getD,hl]
 rw [e]
 conv=>lhs;rw [← List.take_append_drop (l.length-1) l]
 congr 1
 rw [List.drop_eq_getElem_cons hl]
 congr 1
 rw [List.drop_eq_nil_iff]
 omega
theorem mend_ok {s:Pg} {h:Nat} {A B:Nd} {lA lB:dO} {pA pB:List Nat} {k:Bs} (hA:Vt s h A lA pA) (hB:Vt s h B lB pB) (hk:dB k=true) (h1:∀ x∈lA,hX x.1 k) (h2:∀ x∈lB,kle k x.1) :
  (bJ A+bJ B≤8→4≤bJ A+bJ B→Mend s h (lA++lB) [lG A k B] []) ∧
  (5≤bJ A→bJ A≤8→3≤bJ B→bJ B≤7→Mend s h (lA++lB) [(gC A k B).1,(gC A k B).2.2] [(gC A k B).2.1]) ∧
  (5≤bJ B→bJ B≤8→3≤bJ A→bJ A≤7→Mend s h (lA++lB) [(iR A k B).1,(iR A k B).2.2] [(iR A k B).2.1]):=by
 cases h with
 | zero =>
  obtain ⟨rfl,rfl,a3,a4⟩:=hA
  obtain ⟨rfl,rfl,b3,b4⟩:=hB
  have hsrt:Srt (lA++lB):=List.pairwise_append.2 ⟨a3,b3,λ x hx y hy=>kW (h1 x hx) (h2 y hy)⟩
  have hall:∀ x∈lA++lB,dB x.1=true∧fR x.2=true:=λ x hx=>(List.mem_append.1 hx).elim (a4 x) (b4 x)
  have two:∀ (u v:dO) (d:Bs×Bs),u++v=lA++lB→4≤u.length→u.length≤8→4≤v.length→v.length≤8→Mend s 0 (lA++lB) [⟨u,[],[]⟩,⟨v,[],[]⟩] [(v.getD 0 d).1]:=by
   intro u v d e u4 u8 v4 v8
   rw [← e] at hsrt hall ⊢
   obtain ⟨p1,p2,p3⟩:=List.pairwise_append.1 hsrt
   cases v with
   | nil=>simp at v4
   | cons y r =>
    exact mend_two (h:=0) (pa:=[]) (pb:=[]) ⟨rfl,rfl,p1,λ x hx=>hall x (by simp [hx])⟩ ⟨rfl,rfl,p2,λ x hx=>hall x (List.mem_append_right _ hx)⟩ (hall y (by simp)).1 (λ x hx=>p3 x hx y (by simp))
     (λ x hx=>by
      rcases List.mem_cons.1 hx with rfl|hx
      ·exact kle_refl _
      ·exact kX ((List.pairwise_cons.1 p2).1 x hx)) (by simpa [bJ] using u4) (by simpa [bJ] using u8) (by simpa [bJ] using v4) (by simpa [bJ] using v8)
  simp only [bJ,List.length_nil,Nat.add_zero]
  refine ⟨λ g1 g2=>?_,λ g1 g2 g3 g4=>?_,λ g1 g2 g3 g4=>?_⟩
  ·simp only [lG,cK,List.isEmpty_nil,if_true]
   exact mend_one (ps:=[]) ⟨rfl,rfl,hsrt,hall⟩ (by simp [bJ];omega) (by simp [bJ];omega)
  ·have hne:lA≠[]:=by intro e;subst e;simp at g1
   have e1:=last_take (d:=(([],[]):Bs×Bs)) hne
   have e2:cO lA (lA.length-1) (lA.length-1+1)=lA.take (lA.length-1):=by unfold cO;rw [List.drop_eq_nil_of_le (by omega),List.append_nil]
   simp only [gC,cK,List.isEmpty_nil,if_true,e2]
   refine two _ _ _ ?_ (by simp;omega) (by simp;omega) (by simp [dH];omega) (by simp [dH];omega)
   conv=>rhs;rw [e1]
   simp [dH]
  ·cases lB with
   | nil=>simp at g1
   | cons y r =>
    simp only [iR,cK,List.isEmpty_nil,if_true]
    refine two _ _ _ ?_ (by simp [dH];omega) (by simp [dH];omega) ?_ ?_
    ·simp [dH,cO]
    ·simp [cO] at g1 ⊢;omega
    ·simp [cO] at g2 ⊢;omega
 | succ h =>
  have fA:cK A=false:=by
   cases hh:cK A with
   | false=>rfl
   | true=>cases hA.leaf.1 hh
  obtain ⟨As,a1,a2,a3,a4,a5,a6,a7,a8⟩:=hA
  obtain ⟨Bs',b1,b2,b3,b4,b5,b6,b7,b8⟩:=hB
  have neA:∀ x∈As,x.its≠[]:=λ x hx=>by obtain ⟨n1,g1,g2,g3⟩:=a8 x hx;exact g3.ne (by omega)
  have neB:∀ x∈Bs',x.its≠[]:=λ x hx=>by obtain ⟨n1,g1,g2,g3⟩:=b8 x hx;exact g3.ne (by omega)
  have hrow:=join_ok (k:=k) a3 b3 a4 b4 neA neB (λ x hx=>h1 x (by rw [a6];exact hx)) (λ x hx=>h2 x (by rw [b6];exact hx))
  have hkeys:∀ c∈A.keys++k::B.keys,dB c=true:=λ c hc=>by
   rcases List.mem_append.1 hc with hc|hc
   ·exact a5 c hc
   ·rcases List.mem_cons.1 hc with rfl|hc
    ·exact hk
    ·exact b5 c hc
  have hsub:∀ x∈As++Bs',∃ nd',dR s x.page=some nd'∧4≤bJ nd'∧Vt s h nd' x.its x.ps:=λ x hx=>(List.mem_append.1 hx).elim (a8 x) (b8 x)
  have zA:bJ A=As.length:=by simp [bJ,a1,a2]
  have zB:bJ B=Bs'.length:=by simp [bJ,b1,b2]
  have two:∀ (U V:List Sb) (KU KV:List Bs) (c:Bs),U++V=As++Bs'→KU++c::KV=A.keys++k::B.keys→U.length=KU.length+1→V.length=KV.length+1→4≤U.length→U.length≤8→4≤V.length→V.length≤8 →
    Mend s (h+1) (lA++lB) [⟨[],U.map (·.page),KU⟩,⟨[],V.map (·.page),KV⟩] [c]:=by
   intro U V KU KV c eU eK lU lV u4 u8 v4 v8
   rw [← eU,← eK] at hrow
   rw [← eK] at hkeys
   rw [← eU] at hsub
   obtain ⟨r1,r2,r3,r4⟩:=cut_row lU lV hrow
   have e:lA++lB=U.flatMap (·.its)++V.flatMap (·.its):=by rw [a6,b6,← List.flatMap_append,← eU,List.flatMap_append]
   rw [e]
   exact mend_two (h:=h+1) (pa:=pgs U) (pb:=pgs V) ⟨U,rfl,rfl,lU,r1,λ c hc=>hkeys c (by simp [hc]),rfl,rfl,λ x hx=>hsub x (by simp [hx])⟩
    ⟨V,rfl,rfl,lV,r2,λ c hc=>hkeys c (by simp [hc]),rfl,rfl,λ x hx=>hsub x (by simp [hx])⟩ (hkeys c (by simp)) r3 r4 (by simpa [bJ] using u4) (by simpa [bJ] using u8) (by simpa [bJ] using v4) (by simpa [bJ] using v8)
  refine ⟨λ g1 g2=>?_,λ g1 g2 g3 g4=>?_,λ g1 g2 g3 g4=>?_⟩
  ·simp only [lG,fA,Bool.false_eq_true,if_false]
   have ek:A.keys++[k]++B.keys=A.keys++k::B.keys:=by simp
   rw [ek]
   refine mend_one (ps:=pgs (As++Bs')) ⟨As++Bs',rfl,by rw [a2,b2,List.map_append],by simp;omega,hrow,hkeys,by rw [a6,b6,List.flatMap_append],rfl,hsub⟩ ?_ ?_
   ·simp [bJ,a2,b2];omega
   ·simp [bJ,a2,b2];omega
  ·have hAne:As≠[]:=by intro e;rw [e] at a3;cases a3
   have hKne:A.keys≠[]:=by intro e;rw [e] at a3;simp at a3;omega
   have e1:=last_take (d:=(⟨0,[],[]⟩:Sb)) hAne
   have e2:=last_take (d:=([]:Bs)) hKne
   have ekl:A.kids.length=As.length:=by rw [a2,List.length_map]
   have eyl:A.keys.length=As.length-1:=by omega
   have e3:cO A.kids (A.kids.length-1) (A.kids.length-1+1)=(As.take (As.length-1)).map (·.page):=by
    unfold cO;rw [List.drop_eq_nil_of_le (by omega),List.append_nil,ekl,a2,List.map_take]
   have e4:cO A.keys (A.kids.length-1-1) (A.kids.length-1)=A.keys.take (A.keys.length-1):=by
    unfold cO;rw [List.drop_eq_nil_of_le (by omega),List.append_nil];congr 1;omega
   have e5:dH B.kids 0 [A.kids.getD (A.kids.length-1) 0]=((As.getD (As.length-1) ⟨0,[],[]⟩)::Bs').map (·.page):=by
    have hlt:As.length-1<As.length:=by omega
    simp [dH,b2,a2,List.getD_eq_getElem?_getD,hlt]
   have e6:dH B.keys 0 [k]=k::B.keys:=by simp [dH]
   have e7:A.keys.getD (A.kids.length-1-1) []=A.keys.getD (A.keys.length-1) []:=by congr 1;omega
   simp only [gC,fA,Bool.false_eq_true,if_false]
   rw [e3,e4,e5,e6,e7,a1,b1]
   refine two _ _ _ _ _ ?_ ?_ ?_ ?_ ?_ ?_ ?_ ?_
   ·conv=>rhs;rw [e1]
    simp
   ·conv=>rhs;rw [e2]
    simp
   ·simp;omega
   ·simp;omega
   ·simp;omega
   ·simp;omega
   ·simp;omega
   ·simp;omega
  ·cases Bs' with
   | nil=>cases b3
   | cons z zs =>
    have hKne:B.keys≠[]:=by intro e;rw [e] at b3;simp at b3;rw [b3] at zB;simp at zB;omega
    obtain ⟨c,cs,ec⟩:∃ c cs,B.keys=c::cs:=by
     cases hd:B.keys with
     | nil=>exact absurd hd hKne
     | cons a b=>exact ⟨a,b,rfl⟩
    have e5:dH A.kids A.kids.length [B.kids.getD 0 0]=(As++[z]).map (·.page):=by rw [List.map_append,← a2];simp [dH,b2]
    have e6:dH A.keys A.keys.length [k]=A.keys++[k]:=by simp [dH]
    have e7:cO B.kids 0 1=zs.map (·.page):=by simp [cO,b2]
    have e8:cO B.keys 0 1=cs:=by simp [cO,ec]
    have e9:B.keys.getD 0 []=c:=by simp [ec]
    simp only [iR,fA,Bool.false_eq_true,if_false]
    rw [e5,e6,e7,e8,e9,a1,b1]
    rw [ec] at b3
    simp only [List.length_cons] at b3 zB
    refine two _ _ _ _ _ ?_ ?_ ?_ ?_ ?_ ?_ ?_ ?_
    ·simp
    ·rw [ec];simp
    ·simp;omega
    ·omega
    ·simp;omega
    ·simp;omega
    ·omega
    ·omega
end Go.Proofs.YtfpadnmdafiddaaGreatDoor
namespace Go.Proofs.YtfpadnmdafiddaaGreatDoor
theorem Vt.mendOk {s:Pg} (hs:PgOk s) {h:Nat} {nd:Nd} {l:dO} {ps:List Nat} (hv:Vt s h nd l ps) (h4:4≤bJ nd) (h8:bJ nd≤8):cE nd=true:=hv.ok hs (.inl (by omega)) h8
theorem writeAll_ok {h:Nat}:∀ {out:List Pc} {s:Pg},PgOk s→out.length≤bZ s→(∀ o∈out,Vt s h o.nd o.its o.ps∧4≤bJ o.nd∧bJ o.nd≤8) →
  ∃ pages s',eN s (out.map (·.nd))=some (pages,s')∧pages.length=out.length∧Ext s s'∧PgOk s'∧bZ s'+out.length=bZ s∧(List.zipWith onPage pages out).map (·.page)=pages ∧
   (List.zipWith onPage pages out).flatMap (·.its)=out.flatMap (·.its)∧∀ x∈List.zipWith onPage pages out,∃ nd',dR s' x.page=some nd'∧4≤bJ nd'∧Vt s' h nd' x.its x.ps
 | [],s,hs,_,_=>⟨[],s,rfl,rfl,Ext.refl s,hs,rfl,rfl,rfl,λ x hx=>by cases hx⟩
 | o::out,s,hs,hsp,hv=>by
  obtain ⟨v1,v2,v3⟩:=hv o (by simp)
  simp only [List.length_cons] at hsp
  obtain ⟨p,s1,w1,w2⟩:=fE hs (by omega) (v1.mendOk hs v2 v3)
  have:=w2.spare
  obtain ⟨pages,s2,q1,q2,q3,q4,q5,q6,q7,q8⟩:=writeAll_ok (h:=h) (out:=out) (s:=s1) w2.ok (by omega) λ o2 h2=>by
   obtain ⟨u1,u2,u3⟩:=hv o2 (List.mem_cons_of_mem _ h2)
   exact ⟨u1.ext w2.ext,u2,u3⟩
  refine ⟨p::pages,s2,?_,by simp [q2],w2.ext.trans q3,q4,by simp;omega,?_,?_,?_⟩
  ·simp only [List.map_cons,eN,w1,q1]
  ·simp only [List.zipWith_cons_cons,List.map_cons,q6,onPage]
  ·simp only [List.zipWith_cons_cons,List.flatMap_cons,q7,onPage]
  ·intro x hx
   simp only [List.zipWith_cons_cons,List.mem_cons] at hx
   rcases hx with rfl|hx
   ·exact ⟨o.nd,q3.node w2.node,v2,(v1.ext w2.ext).ext q3⟩
   ·exact q8 x hx
theorem mid_two {α : Type} {la lb us:List α} {x y : α}:dH (cO (la++x::y::lb) la.length (la.length+2)) la.length us=la++us++lb:=by
 have e1:(la++x::y::lb).take la.length=la:=List.take_left' rfl
 have e2:(la++x::y::lb).drop (la.length+2)=lb:=by
  rw [← List.drop_drop,List.drop_left' rfl];rfl
 unfold dH cO
 rw [e1,e2,List.take_left' rfl,List.drop_left' rfl]
theorem splice_two {s:Pg} {h:Nat} {nd:Nd} {pa pb us:List Sb} {y z:Sb} {ka kb uk:List Bs} {k:Bs} {lA lB:dO} (e1:nd.items=[]) (e2:nd.kids=(pa++y::z::pb).map (·.page)) (e3:nd.keys=ka++k::kb) (l1:pa.length=ka.length) (l2:kb.length=pb.length)
  (hp:(TK pa ka++[Tok.T y,Tok.K k,Tok.T z]++KT kb pb).Pairwise RT) (hk:∀ c∈nd.keys,dB c=true) (hsub:∀ x∈pa++pb,∃ nd',dR s x.page=some nd'∧4≤bJ nd'∧Vt s h nd' x.its x.ps)
  (u1:us.length=uk.length+1) (u2:(toks us uk).Pairwise RT) (u3:∀ c∈uk,dB c=true) (u4:us.flatMap (·.its)=lA++lB) (u5:∀ x∈us,∃ nd',dR s x.page=some nd'∧4≤bJ nd'∧Vt s h nd' x.its x.ps)
  (hA:∀ a∈lA,a∈y.its) (hB:∀ a∈lB,a∈z.its) :
  Vt s (h+1) (lS nd pa.length (us.map (·.page)) uk) (pa.flatMap (·.its)++(lA++lB)++pb.flatMap (·.its)) (pgs (pa++us++pb))∧bJ (lS nd pa.length (us.map (·.page)) uk)=pa.length+us.length+pb.length:=by
 have m1:dH (cO nd.kids pa.length (pa.length+2)) pa.length (us.map (·.page))=(pa++us++pb).map (·.page):=by
  rw [e2]
  simp only [List.map_append,List.map_cons]
  have:=mid_two (la:=pa.map (·.page)) (lb:=pb.map (·.page)) (us:=us.map (·.page)) (x:=y.page) (y:=z.page)
  rw [List.length_map] at this
  exact this
 have m2:dH (cO nd.keys pa.length (pa.length+1)) pa.length uk=ka++uk++kb:=by
  rw [e3,l1]
  exact mid_put
 have hN:lS nd pa.length (us.map (·.page)) uk=⟨[],(pa++us++pb).map (·.page),ka++uk++kb⟩:=by
  unfold lS
  rw [m1,m2]
  cases nd
  simp only at e1 ⊢
  rw [e1]
 rw [hN]
 have hne:∀ x∈us,x.its≠[]:=λ x hx=>by
  obtain ⟨n1,g1,g2,g3⟩:=u5 x hx
  exact g3.ne (by omega)
 refine ⟨⟨pa++us++pb,rfl,rfl,by simp;omega,?_,?_,by rw [← u4];simp,rfl,?_⟩,by simp [bJ];omega⟩
 ·rw [toks_mid l1 u1]
  refine splice_ok hp u1 u2 hne (λ t ht a ha=>?_) (λ t ht a ha=>?_)
  ·have hc:=(List.pairwise_append.1 (List.pairwise_append.1 hp).1).2.2 t ht
   rw [u4] at ha
   rcases List.mem_append.1 ha with ha|ha
   ·exact RT_T.1 (hc (.T y) (by simp)) a (hA a ha)
   ·exact RT_T.1 (hc (.T z) (by simp)) a (hB a ha)
  ·have hc:=(List.pairwise_append.1 hp).2.2
   rw [u4] at ha
   rcases List.mem_append.1 ha with ha|ha
   ·exact T_RT.1 (hc (.T y) (by simp) t ht) a (hA a ha)
   ·exact T_RT.1 (hc (.T z) (by simp) t ht) a (hB a ha)
 ·intro c hc
  simp only [List.mem_append] at hc
  rcases hc with (hc|hc)|hc
  ·exact hk c (by rw [e3];simp [hc])
  ·exact u3 c hc
  ·exact hk c (by rw [e3];simp [hc])
 ·intro x hx
  simp only [List.mem_append] at hx
  rcases hx with (hx|hx)|hx
  ·exact hsub x (by simp [hx])
  ·exact u5 x hx
  ·exact hsub x (by simp [hx])
theorem mem_delI {key:Bs} {l:dO} {x:Bs×Bs} (h:x∈gV key l):x∈l:=(List.mem_filter.1 h).1
theorem node_le {s:Pg} {n:Nat} {nd:Nd} (h:dR s n=some nd):bJ nd≤8:=by
 have hok:=iN h
 unfold cE at hok
 split at hok
 ·rename_i hl
  obtain ⟨_,h8,_⟩:=dL hok
  rw [dK] at hl
  simp [bJ,hl];omega
 ·obtain ⟨h1,_,w8,_⟩:=cT hok
  simp [bJ,h1];omega
theorem del_up (key:Bs):∀ (h:Nat) {s:Pg} {n f:Nat} {nd:Nd} {l:dO} {ps:List Nat},PgOk s→dR s n=some nd→Vt s h nd l ps→h<f→2*(h+1)≤bZ s→(∃ x∈l,x.1=key) →
  ∃ fr,gZ s key f n=some (fr,true)∧fr.length=h+1∧∃ low s' ps',mT fr s=some (low,s')∧Ext s s'∧PgOk s'∧Vt s' h low (gV key l) ps'∧bJ nd≤bJ low+1∧bJ low≤bJ nd∧bZ s≤bZ s'+2*h∧bZ s'≤bZ s
 | 0,s,n,f,nd,l,ps,hs,hn,hv,hf,hsp,hkey=>by
  obtain ⟨rfl,rfl,h3,h4⟩:=hv
  obtain ⟨f,rfl⟩:∃ g,f=g+1:=⟨f-1,by omega⟩
  have ht:=(mP key h3).2 hkey
  refine ⟨[(⟨l,[],[]⟩,gD l key)],by simp only [gZ,hn];rw [if_pos (by rfl),ht],rfl,⟨gV key l,[],[]⟩,s,[],?_,Ext.refl s,hs,⟨rfl,rfl,delI_srt h3,λ x hx=>h4 x (mem_delI hx)⟩,?_,?_,by omega,by omega⟩
  ·simp only [mT]
   rw [if_pos (by rfl),del_eq key h3 ht]
  ·have:=del_len key h3
   simpa [bJ] using this
  ·have:=delI_le key l
   simpa [bJ] using this
 | h+1,s,n,f,nd,l,ps,hs,hn,hv,hf,hsp,hkey=>by
  have hok:=iN hn
  obtain ⟨ls,e1,e2,e3,e4,e5,e6,e7,e8⟩:=hv
  obtain ⟨f,rfl⟩:∃ g,f=g+1:=⟨f-1,by omega⟩
  have hlf:cK nd=false:=by
   cases hh:cK nd with
   | false=>rfl
   | true =>
    rw [dK.1 hh] at e2
    cases ls with
    | nil=>cases e3
    | cons _ _=>cases e2
  unfold cE at hok
  rw [if_neg (by rw [hlf];simp)] at hok
  obtain ⟨_,w2,w8,w4,_,_⟩:=cT hok
  obtain ⟨la,x,lb,ka,kb,a1,a2,a3,a4,a5,a6,a7,a8⟩:=kid_split e3 e4 key
  obtain ⟨ndx,x1,x2,x3⟩:=e8 x (by rw [a1];simp)
  have hlt:=TK_its a4.symm a6
  have hgt:=KT_its a5 a7
  have hflat:l=la.flatMap (·.its)++(x.its++lb.flatMap (·.its)):=by rw [e6,a1];simp
  have hkx:∃ y∈x.its,y.1=key:=by
   obtain ⟨y,hy,e⟩:=hkey
   rw [hflat] at hy
   rcases List.mem_append.1 hy with hy|hy
   ·exact absurd (hlt y hy) (by rw [e];exact dC _)
   ·rcases List.mem_append.1 hy with hy|hy
    ·exact ⟨y,hy,e⟩
    ·exact absurd (hgt y hy) (by rw [e];exact dC _)
  obtain ⟨fr,i1,i2,low,s1,ps1,i4,i5,i6,i7,i8,i9,i10,i11⟩:=del_up key h (s:=s) (n:=x.page) (f:=f) hs x1 x3 (by omega) (by omega) hkx
  have hkid:nd.kids[iQ nd.keys key]? = some x.page:=by
   rw [e2,a1,← a3]
   simp
  have hdel:gV key l=la.flatMap (·.its)++gV key x.its++lb.flatMap (·.its):=by
   rw [hflat,delI_append,delI_append,delI_same (a:=la.flatMap (·.its)) (λ y hy e=>dC key (by have:=hlt y hy;rwa [e] at this)),delI_same (a:=lb.flatMap (·.its)) (λ y hy e=>dC key (by have:=hgt y hy;rwa [e] at this))]
   simp
  have old:∀ y∈ls,∃ nd',dR s1 y.page=some nd'∧4≤bJ nd'∧Vt s1 h nd' y.its y.ps:=λ y hy=>by
   obtain ⟨n1,g1,g2,g3⟩:=e8 y hy
   exact ⟨n1,i5.node g1,g2,g3.ext i5⟩
  have hsnd:bJ nd=nd.kids.length:=by simp [bJ,e1]
  have hkz:nd.kids.length=ls.length:=by rw [e2,List.length_map]
  have hlsz:ls.length=la.length+1+lb.length:=by rw [a1];simp;omega
  have hx8:=node_le x1
  refine ⟨(nd,iQ nd.keys key)::fr,?_,by simp [i2],?_⟩
  ·simp only [gZ,hn,hlf,Bool.false_eq_true,if_false,hkid,i1]
  ·have hunf:mT ((nd,iQ nd.keys key)::fr) s=lowerP s1 nd la.length low:=by
    simp only [mT,i4,hlf,Bool.false_eq_true,if_false,← a3]
   rw [hunf]
   unfold lowerP
   by_cases h4:bJ low<4
   ·rw [if_pos h4]
    have key2:∀ (pa pb:List Sb) (y z:Sb) (k:Bs) (ka' kb':List Bs) (A B sib:Nd) (lA lB:dO) (pA pB:List Nat),ls=pa++y::z::pb→nd.keys=ka'++k::kb'→pa.length=ka'.length→kb'.length=pb.length →
      (TK pa ka'++[Tok.T y,Tok.K k,Tok.T z]++KT kb' pb).Pairwise RT→Vt s1 h A lA pA→Vt s1 h B lB pB→(∀ a∈lA,a∈y.its)→(∀ a∈lB,a∈z.its)→la.length-1=pa.length→nd.kids[if la.length=0 then 1 else la.length-1]? = some (if la.length=0 then z.page else y.page) →
      dR s1 (if la.length=0 then z.page else y.page)=some sib→A=(if la.length=0 then low else sib)→B=(if la.length=0 then sib else low)→4≤bJ sib→bJ sib≤8→gV key l=pa.flatMap (·.its)++(lA++lB)++pb.flatMap (·.its) →
      ∃ low' s' ps',repairP s1 nd la.length low=some (low',s')∧Ext s s'∧PgOk s'∧Vt s' (h+1) low' (gV key l) ps'∧bJ nd≤bJ low'+1∧bJ low'≤bJ nd∧bZ s≤bZ s'+2*(h+1)∧bZ s'≤bZ s:=by
     intro pa pb y z k ka' kb' A B sib lA lB pA pB t1 t2 t3 t4 t5 t6 t7 t8 t9 t10 t11 t12 t13 t14 t15 t16 t17
     have hkk:nd.keys.getD (la.length-1) []=k:=by rw [t10,t2,t3];simp
     have r1:=(List.pairwise_append.1 (List.pairwise_append.1 t5).1).2.1
     have ryk:RT (.T y) (.K k):=(List.pairwise_cons.1 r1).1 _ (by simp)
     have rkz:RT (.K k) (.T z):=(List.pairwise_cons.1 (List.pairwise_cons.1 r1).2).1 _ (by simp)
     obtain ⟨g1,g2,g3⟩:=mend_ok t6 t7 (e5 k (by rw [t2];simp)) (λ a ha=>ryk a (t8 a ha)) (λ a ha=>rkz a (t9 a ha))
     have hleaf:(cK sib != cK low)=false:=by
      have q1:=t6.leaf
      have q2:=t7.leaf
      have q3:cK A=cK B:=by
       cases hA:cK A<;>cases hB:cK B<;>simp_all
      rw [t13,t14] at q3
      by_cases h0:la.length=0
      ·rw [if_pos h0,if_pos h0] at q3;rw [q3];simp
      ·rw [if_neg h0,if_neg h0] at q3;rw [q3];simp
     have hmend:Mend s1 h (lA++lB) (hQ sib low la.length (nd.keys.getD (la.length-1) [])).1 (hQ sib low la.length (nd.keys.getD (la.length-1) [])).2:=by
      rw [hkk]
      unfold hQ
      by_cases h0:la.length=0
      ·rw [if_pos h0] at t13 t14
       simp only [if_pos h0]
       rw [← t14] at t15 t16 ⊢
       rw [← t13] at h4 i8 i9 ⊢
       by_cases h5:bJ B≤4
       ·rw [if_pos h5];exact g1 (by omega) (by omega)
       ·rw [if_neg h5,if_neg (by omega)];exact g3 (by omega) (by omega) (by omega) (by omega)
      ·rw [if_neg h0] at t13 t14
       simp only [if_neg h0]
       rw [← t13] at t15 t16 ⊢
       rw [← t14] at h4 i8 i9 ⊢
       by_cases h5:bJ A≤4
       ·rw [if_pos h5];exact g1 (by omega) (by omega)
       ·rw [if_neg h5,if_pos (by omega)];exact g2 (by omega) (by omega) (by omega) (by omega)
     obtain ⟨out,o1,o2,o3,o4,o5,o6,o7⟩:=hmend.ex
     obtain ⟨pages,s2,q1,q2,q3,q4,q5,q6,q7,q8⟩:=writeAll_ok i6 (by omega) o6
     obtain ⟨v1,v2⟩:=splice_two (s:=s2) (h:=h) (nd:=nd) (pa:=pa) (pb:=pb) (us:=List.zipWith onPage pages out) (uk:=(hQ sib low la.length (nd.keys.getD (la.length-1) [])).2) (lA:=lA) (lB:=lB) e1 (by rw [e2,t1]) t2 t3 t4 t5 e5
      (λ x hx=>by
       obtain ⟨n1,u1,u2,u3⟩:=old x (by rw [t1];rcases List.mem_append.1 hx with hx|hx<;>simp [hx])
       exact ⟨n1,q3.node u1,u2,u3.ext q3⟩)
      (by rw [List.length_zipWith,q2,Nat.min_self];exact o2) (o7 pages q2) o4 (by rw [q7,← o5]) q8 t8 t9
     have hus:(List.zipWith onPage pages out).length=out.length:=by rw [List.length_zipWith,q2,Nat.min_self]
     rw [q6] at v1 v2
     have hlen:ls.length=pa.length+2+pb.length:=by rw [t1];simp;omega
     refine ⟨_,s2,_,?_,i5.trans q3,q4,by rw [t17];exact v1,by omega,by omega,by omega,by omega⟩
     unfold repairP
     simp only [t11]
     by_cases h0:la.length=0
     ·simp only [if_pos h0] at t12 t11 ⊢
      simp only [t12,hleaf,Bool.false_eq_true,if_false]
      rw [o1,q1]
      rw [t10]
     ·simp only [if_neg h0] at t12 t11 ⊢
      simp only [t12,hleaf,Bool.false_eq_true,if_false]
      rw [o1,q1]
      rw [t10]
    rcases List.eq_nil_or_concat la with hla|⟨pa,y,hla⟩
    ·subst hla
     have hka:ka=[]:=List.eq_nil_of_length_eq_zero (by simpa using a4)
     subst hka
     cases lb with
     | nil=>simp at hlsz;omega
     | cons z pb =>
      cases kb with
      | nil=>cases a5
      | cons k kb' =>
       obtain ⟨ndz,z1,z2,z3⟩:=old z (by rw [a1];simp)
       have z8:=node_le z1
       refine key2 [] pb x z k [] kb' low ndz ndz (gV key x.its) z.its ps1 z.ps (by rw [a1,List.nil_append]) (by rw [a2,List.nil_append]) rfl (by simpa using a5) (by simpa [TK,KT] using a8) i7 z3 (λ a ha=>mem_delI ha) (λ a ha=>ha) rfl ?_ z1 rfl rfl z2 z8 ?_
       ·rw [if_pos (by rfl),if_pos (by rfl),e2,a1];rfl
       ·rw [hdel];simp
    ·rw [List.concat_eq_append] at hla
     subst hla
     rcases List.eq_nil_or_concat ka with hka|⟨ka',k,hka⟩
     ·subst hka;simp at a4
     ·rw [List.concat_eq_append] at hka
      subst hka
      have hl:pa.length=ka'.length:=by simp at a4;omega
      have hle:(pa++[y]).length=pa.length+1:=by simp
      obtain ⟨ndy,y1,y2,y3⟩:=old y (by rw [a1];simp)
      have y8:=node_le y1
      refine key2 pa lb y x k ka' kb ndy low ndy y.its (gV key x.its) y.ps ps1 (by rw [a1];simp) (by rw [a2];simp) hl a5 (by rw [TK_snoc hl] at a8;simpa using a8) y3 i7 (λ a ha=>ha) (λ a ha=>mem_delI ha) (by omega) ?_ ?_ ?_ ?_ y2 y8 ?_
      ·rw [if_neg (by omega),if_neg (by omega),hle,e2,a1];simp
      ·rw [if_neg (by omega)];exact y1
      ·rw [if_neg (by omega)]
      ·rw [if_neg (by omega)]
      ·rw [hdel];simp
   ·rw [if_neg h4]
    obtain ⟨p,s2,g1,g2⟩:=fE i6 (by omega) (i7.mendOk i6 (by omega) (by omega))
    have:=g2.spare
    rw [g1]
    have hne:∀ y∈[(⟨p,gV key x.its,ps1⟩:Sb)],y.its≠[]:=λ y hy=>by
     simp only [List.mem_singleton] at hy
     subst hy
     exact i7.ne (by omega)
    have m1:dH (cO nd.kids la.length (la.length+1)) la.length [p]=(la++[(⟨p,gV key x.its,ps1⟩:Sb)]++lb).map (·.page):=by
     rw [e2,a1]
     simp only [List.map_append,List.map_cons,List.map_nil]
     have:=mid_put (la:=la.map (·.page)) (lb:=lb.map (·.page)) (us:=[p]) (x:=x.page)
     rw [List.length_map] at this
     exact this
    refine ⟨_,s2,pgs (la++[⟨p,gV key x.its,ps1⟩]++lb),rfl,i5.trans g2.ext,g2.ok,⟨la++[⟨p,gV key x.its,ps1⟩]++lb,e1,m1,by simp;omega,?_,e5,by rw [hdel];simp,rfl,?_⟩,?_,?_,by omega,by omega⟩
    ·have:=toks_mid (la:=la) (us:=[⟨p,gV key x.its,ps1⟩]) (lb:=lb) (ka:=ka) (uk:=[]) (kb:=kb) a4.symm rfl
     rw [List.append_nil,← a2] at this
     simp only
     rw [this]
     refine splice_ok a8 rfl (by simp [toks,KT]) hne (λ t ht a ha=>?_) (λ t ht a ha=>?_)
     ·simp only [List.flatMap_cons,List.flatMap_nil,List.append_nil] at ha
      have:=(List.pairwise_append.1 (List.pairwise_append.1 a8).1).2.2 t ht (.T x) (by simp)
      exact RT_T.1 this a (mem_delI ha)
     ·simp only [List.flatMap_cons,List.flatMap_nil,List.append_nil] at ha
      have:=(List.pairwise_append.1 a8).2.2 (.T x) (by simp) t ht
      exact T_RT.1 this a (mem_delI ha)
    ·intro y hy
     simp only [List.mem_append,List.mem_singleton] at hy
     rcases hy with (hy|rfl)|hy
     ·obtain ⟨n1,u1,u2,u3⟩:=old y (by rw [a1];simp [hy])
      exact ⟨n1,g2.ext.node u1,u2,u3.ext g2.ext⟩
     ·exact ⟨low,g2.node,by omega,i7.ext g2.ext⟩
     ·obtain ⟨n1,u1,u2,u3⟩:=old y (by rw [a1];simp [hy])
      exact ⟨n1,g2.ext.node u1,u2,u3.ext g2.ext⟩
    ·simp only [bJ,m1,e1]
     simp
     omega
    ·simp only [bJ,m1,e1]
     simp
     omega
end Go.Proofs.YtfpadnmdafiddaaGreatDoor
