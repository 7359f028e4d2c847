import Derived.Test.YtlmdfhkdeieceaaGreatWe
import Derived.Laws.Externs
set_option linter.all false
set_option maxHeartbeats 16000000
set_option maxRecDepth 100000
namespace Go.E
open Go Go.RowKit Go.V
variable [LoopTab] [Gl]
section
variable {R:Type} {bad:R} {P:Program} {fl fd:Nat} {h:H} {nx:Nat}
theorem run_loadBytes {w : World} {b : Nat} : ∀ (l : List Nat) (o : Nat) (acc : ByteArray), (∀ v ∈ l, v < 256) → (∀ (i : Nat) (v : Nat), l[i]? = some v → w.cell? ⟨b, o + i, none⟩ = some (.int .u8 (v : Int))) →
    ∃ y:ByteArray,(Extern.Bytes.loadBytes ⟨b,o,none⟩ l.length acc).run P w=.ok y w∧y.data.toList=acc.data.toList++l.map λ n=>UInt8.ofNat n
  | [],o,acc,_,_=>⟨acc,rfl,by simp⟩
  | v::l,o,acc,hl,hc=>by
    have h0:=hc 0 v rfl
    rw [Nat.add_zero] at h0
    have ha:(⟨b,o,none⟩:Addr).add 1=⟨b,o+1,none⟩:=Addr.add_lit ..
    obtain ⟨y,h1,h2⟩:=run_loadBytes l (o+1) (acc.push (UInt8.ofNat v)) (λ u hu=>hl u (by simp [hu])) λ i u hi=>by
      have:=hc (i+1) u (by simpa using hi)
      rwa [show o+(i+1)=o+1+i by omega] at this
    refine ⟨y,?_,?_⟩
    . show (Extern.Bytes.loadBytes ⟨b,o,none⟩ (l.length+1) acc).run P w=_
      rw [Extern.Bytes.loadBytes]
      have e:((v:Int).toNat).toUInt8=UInt8.ofNat v:=rfl
      simp only [Sem.run_bind,run_load,h0,Result.andThen_ok,ha]
      exact h1
    . rw [h2];simp [ByteArray.push]
def lenOf:A→Option Nat
  | .slice _ _ n _=>some n
  | .slu _ _ n _=>some n
  | .nilSlice=>some 0
  | .str n _=>some n
  | _=>none
def BytesAre (P:Program) (h:H) (nx:Nat) (a:A) (n s:Nat):Prop:=∀ ρ w x,Rel ρ h.get nx w→AR ρ a x→∃ y:ByteArray,(Extern.Bytes.bytesOf x).run P w=.ok y w∧y.data.toList.length=n∧packB y.data.toList=s
theorem byts {n s:Nat} {y:ByteArray} (hs:s<256^n) (hy:y.data.toList=((List.range n).map λ i=>byteAt s i).map λ n=>UInt8.ofNat n):y.data.toList.length=n∧packB y.data.toList=s:=by
  rw [hy]
  refine ⟨by simp,?_⟩
  rw [List.map_map]
  have:=packB_bytes n s
  rw [Nat.mod_eq_of_lt hs] at this
  exact this
theorem byt_ok (m:Bool) (a:A) (n:Nat) (hn:lenOf a=some n) (k:Rope→R):Ok1 bad (srcK bad m h a 1 n k) k λ q=>∀ n' s,q.bytes=some (n',s)→BytesAre P h nx a n s:=by
  have slice : ∀ (b o : Nat) (p : Pl) (ρ : Plc) (w : World) (r r' : Rope) (t : TypeId) (o' : Nat), Rel ρ h.get nx w → ρ b = some p → h.get b = some (.cells t r) → (o' = p.sh + o ∨ n = 0) →
      (∀ ρ cs,RR ρ r cs→o+n*1≤cs.length∧RR ρ r' ((cs.drop o).take (n*1)))→∀ n' s,r'.bytes=some (n',s)→∃ y:ByteArray,(Extern.Bytes.loadBytes ⟨p.blk,o',none⟩ n .empty).run P w=.ok y w∧y.data.toList.length=n∧packB y.data.toList=s:=by
    intro b o p ρ w r r' t o' hr hp hb ho hsub n' s hbt
    obtain ⟨arr,fr,cs,h1,h2,h3,h4,h5⟩:=hr.cells hb hp
    obtain ⟨hl,hrr⟩:=hsub ρ cs h3
    rw [Nat.mul_one] at hl hrr
    obtain ⟨e1,hs⟩:=rope_bytes hrr hbt
    have hn':n'=n:=by
      have:=congrArg List.length e1
      rw [length_bcells,List.length_take,List.length_drop] at this
      omega
    subst hn'
    obtain ⟨y,g1,g2⟩:=run_loadBytes (P:=P) (w:=w) (b:=p.blk) ((List.range n').map λ i=>byteAt s i) o' .empty (λ v hv=>by
      obtain ⟨i,_,rfl⟩:=List.mem_map.1 hv;exact byteAt_lt s i) λ i v hi=>by
        have hlt:i<n':=by
          rcases Nat.lt_or_ge i n' with h|h
          . exact h
          . rw [List.getElem?_eq_none (by simpa using h)] at hi;cases hi
        simp [hlt] at hi
        subst hi
        have hc:cs[o+i]? = some (.int .u8 (byteAt s i:Nat)):=by
          have:=bcells_get (s:=s) hlt
          rw [← e1,List.getElem?_take,if_pos hlt,List.getElem?_drop] at this
          exact this
        rcases ho with ho|ho
        . have:=h4 _ _ hc
          subst ho
          have:=cell_at (o:=p.sh+o) (j:=i) h1 (by rw [Nat.add_assoc];exact this)
          rwa [Addr.add_lit] at this
        . omega
    rw [List.length_map,List.length_range] at g1
    exact ⟨y,g1,byts hs (by rw [g2];rfl)⟩
  unfold srcK
  cases a with
  | slice b o l c =>
    cases hn
    refine out_ok1 λ hc=>?_
    rcases cellsK_ok (bad:=bad) h b (λ _ r=>r.sub bad m o (Nat.mul n 1) k) with e|⟨t,r,hb,e⟩
    . exact .inl e
    . rw [e]
      refine (sub_ok bad m r o (Nat.mul n 1) k).mono λ q hq n' s hbt ρ w x hr hx=>?_
      cases hx with
      | slice _ _ _ _ o' p hp hn hcm ho=>exact slice b o p ρ w r q t o' hr hp hb (ho.imp id (λ h=>by omega)) hq n' s hbt
  | slu b o l z' =>
    cases hn
    refine out_ok1 λ hc=>?_
    rcases cellsK_ok (bad:=bad) h b (λ _ r=>r.sub bad m o (Nat.mul n 1) k) with e|⟨t,r,hb,e⟩
    . exact .inl e
    . rw [e]
      refine (sub_ok bad m r o (Nat.mul n 1) k).mono λ q hq n' s hbt ρ w x hr hx=>?_
      cases hx with
      | slu _ _ _ _ c o' p hp hn hcm ho hs=>exact slice b o p ρ w r q t o' hr hp hb (ho.imp id (λ h=>by omega)) hq n' s hbt
  | nilSlice =>
    cases hn
    refine out_ok1 λ hc=>.inr ⟨_,λ n' s hbt ρ w x hr hx=>?_,rfl⟩
    cases hbt
    cases hx
    exact ⟨.empty,rfl,rfl,rfl⟩
  | str l t =>
    cases hn
    refine out_ok1 λ hc=>?_
    rw [natK_eq]
    refine .inr ⟨_,λ n' s hbt ρ w x hr hx=>?_,rfl⟩
    cases hbt
    cases hx with
    | str y _ _ e1 e2 =>
      have hl:y.data.toList.length=n:=by rw [Array.length_toList];exact e1
      refine ⟨y,rfl,hl,?_⟩
      have:=packB_lt y.data.toList
      rw [hl,e2] at this
      rw [e2,lo8_eq,Nat.mod_eq_of_lt this]
  | _=>cases hn
theorem find_cmp (a b:ByteArray):Extern.BytealgCompare.cmp a b=if a.data.toList=b.data.toList then 0 else if Op.bytesLess a.data.toList b.data.toList then -1 else 1:=by
  have aux : ∀ (x y : List UInt8) (d : List UInt8), a.data.toList = d ++ x → b.data.toList = d ++ y →
      (match ((List.range' d.length (min x.length y.length)).find? λ i=>a[i]! != b[i]!) with
        | some i=>if a[i]! < b[i]! then (-1:Int) else 1
        | none=>if a.size<b.size then -1 else if a.size > b.size then 1 else 0)=if x=y then 0 else if Op.bytesLess x y then -1 else 1:=by
    have sz:∀ (c:ByteArray) (l:List UInt8),c.data.toList=l→c.size=l.length:=λ c l h=>by rw [← h,Array.length_toList];rfl
    have at':∀ (c:ByteArray) (d x:List UInt8) (v:UInt8),c.data.toList=d++v::x→c[d.length]! = v:=λ c d x v h=>by
      have hs:=sz c _ h
      have hlt:d.length<c.size:=by rw [hs];simp
      rw [getElem!_pos c d.length hlt]
      show c.data[d.length]'_=v
      rw [← Array.getElem_toList]
      simp [h]
    intro x
    induction x with
    | nil =>
      intro y d ha hb
      have h1:=sz a _ ha
      have h2:=sz b _ hb
      cases y with
      | nil=>simp [h1,h2]
      | cons v y=>simp [h1,h2,Op.bytesLess]
    | cons u x ih =>
      intro y d ha hb
      cases y with
      | nil =>
        have h1:=sz a _ ha
        have h2:=sz b _ hb
        simp [h1,h2,Op.bytesLess]
      | cons v y =>
        have e1:=at' a d x u ha
        have e2:=at' b d y v hb
        rw [show min (u::x).length (v::y).length=min x.length y.length+1 by simp,List.range'_succ,List.find?_cons,e1,e2]
        by_cases huv:u=v
        . subst huv
          have:=ih y (d++[u]) (by simpa using ha) (by simpa using hb)
          simp only [List.length_append,List.length_singleton] at this
          simp only [bne_self_eq_false]
          rw [this]
          simp [Op.bytesLess]
        . have h3:(u != v)=true:=by simpa using huv
          rw [h3]
          simp only [e1,e2]
          have h4:¬ (u::x=v::y):=λ e=>huv (by cases e;rfl)
          rw [if_neg h4]
          simp [Op.bytesLess,huv]
  have:=aux a.data.toList b.data.toList [] rfl rfl
  rw [← this]
  unfold Extern.BytealgCompare.cmp
  rw [List.range_eq_range']
  rfl
theorem conCompare_ok {f:FuncId} {fn:Func} (hf:P.funcs[f]? = some fn) (hname:(fn.name=="runtime.NumGoroutine")=false) (hb:fn.body.isNone=true) (hn:Extern.findNext fn=none) (he:Extern.find fn=some Extern.BytealgCompare.compare):ConOk P f conCompare:=by
  intro R bad fl fd hfl vs h nx k
  unfold conCompare
  dsimp only
  split
  . rename_i a b
    have hla:lenA bad a=λ k=>match lenOf a with|some n=>k n|none=>bad:=by funext k;cases a<;>rfl
    have hlb:lenA bad b=λ k=>match lenOf b with|some n=>k n|none=>bad:=by funext k;cases b<;>rfl
    rw [hla]
    cases hna:lenOf a with
    | none=>exact .inl rfl
    | some n =>
      dsimp only
      rw [hlb]
      cases hnb:lenOf b with
      | none=>exact .inl rfl
      | some p =>
        dsimp only
        refine (byt_ok (P:=P) (h:=h) (nx:=nx) true a n hna _).out λ x hx=>(byt_ok (P:=P) (h:=h) (nx:=nx) true b p hnb _).out λ y hy=>?_
        split
        . rename_i n1 s n2 t h1 h2
          have hA:=hx n1 s h1
          have hB:=hy n2 t h2
          have call : ∀ (r : Nat) (z : Int), r < 18446744073709551616 → IntKind.i64.wrap (r : Int) = z → (∀ u v : ByteArray, u.data.toList.length = n → packB u.data.toList = s → v.data.toList.length = p → packB v.data.toList = t → Extern.BytealgCompare.cmp u v = z) →
              Out bad (k (.at (.int .i64 r)) h nx) λ e=>∃ v h' nx',CallM P fl fd (.fn f) [.at a,.at b] h nx v h' nx'∧e=k v h' nx':=by
            intro r z hr hz hc
            refine .inr ⟨_,h,nx,λ ρ w xs g0 hg0 hxs hrel=>?_,rfl⟩
            cases hg0
            show Res P _ ((callFunc f xs.toArray).run P w)
            cases hxs with
            | cons _ _ _ _ g1 hxs=>cases hxs with
              | cons _ _ _ _ g2 hxs=>cases hxs with
                | nil =>
                  rename_i xa xb
                  obtain ⟨u,u1,u2,u3⟩:=hA ρ w xa hrel g1.atom
                  obtain ⟨v,v1,v2,v3⟩:=hB ρ w xb hrel g2.atom
                  have hcmp:=hc u v u2 u3 v2 v3
                  have hrun:(callFunc f #[xa,xb]).run P w=.ok (.value (goInt z)) w:=by
                    rw [run_callFunc_extern hf hname hb hn he]
                    have e0:Extern.BytealgCompare.compare #[xa,xb]=(do let a ← Extern.Bytes.bytesOf xa;let b ← Extern.Bytes.bytesOf xb;pure (goInt (Extern.BytealgCompare.cmp a b))):=rfl
                    rw [e0]
                    simp only [Sem.run_bind,u1,v1,Result.andThen_ok,Sem.run_pure,hcmp]
                  show Res P _ ((callFunc f #[xa,xb]).run P w)
                  rw [hrun]
                  refine ⟨ρ,.at _ _ ?_,Stp.refl hrel⟩
                  have:=AR.int (ρ:=ρ) .i64 r hr
                  rwa [hz] at this
          have eq1:∀ u v:ByteArray,u.data.toList.length=n→packB u.data.toList=s→v.data.toList.length=p→packB v.data.toList=t→(u.data.toList=v.data.toList↔two (Nat.beq n p) (Nat.beq s t)=true):=by
            intro u v u1 u2 v1 v2
            have:=packB_eq (a:=u.data.toList) (b:=v.data.toList)
            rw [u1,u2,v1,v2] at this
            rw [← this]
            simp
          have eq2:∀ u v:ByteArray,u.data.toList.length=n→packB u.data.toList=s→v.data.toList.length=p→packB v.data.toList=t→Op.bytesLess u.data.toList v.data.toList=strLt (Nat.succ n) n s p t:=by
            intro u v u1 u2 v1 v2
            have:=strLt_eq (n+1) u.data.toList v.data.toList (by omega)
            rw [u1,u2,v1,v2] at this
            exact this.symm
          cases hq:two (Nat.beq n p) (Nat.beq s t) with
          | true =>
            rw [cond_true]
            refine call 0 0 (by decide) (by decide) λ u v u1 u2 v1 v2=>?_
            rw [find_cmp,if_pos ((eq1 u v u1 u2 v1 v2).2 hq)]
          | false =>
            rw [cond_false]
            have hne:∀ u v:ByteArray,u.data.toList.length=n→packB u.data.toList=s→v.data.toList.length=p→packB v.data.toList=t→¬ u.data.toList=v.data.toList:=λ u v u1 u2 v1 v2 e=>by
              rw [(eq1 u v u1 u2 v1 v2).1 e] at hq;cases hq
            cases hl:strLt (Nat.succ n) n s p t with
            | true =>
              rw [cond_true]
              refine call 18446744073709551615 (-1) (by decide) (by decide) λ u v u1 u2 v1 v2=>?_
              rw [find_cmp,if_neg (hne u v u1 u2 v1 v2),eq2 u v u1 u2 v1 v2,hl];rfl
            | false =>
              rw [cond_false]
              refine call 1 1 (by decide) (by decide) λ u v u1 u2 v1 v2=>?_
              rw [find_cmp,if_neg (hne u v u1 u2 v1 v2),eq2 u v u1 u2 v1 v2,hl];rfl
        . exact .inl rfl
  . exact .inl rfl
theorem compare_row:Extern.allRows.lookup "internal/bytealg.Compare" = some Extern.BytealgCompare.compare:=by rfl
end
end Go.E
