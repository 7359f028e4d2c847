import Derived.Test.YtoldjgmcoekchaaGreatDoorWk
import Derived.Test.YtoldjgmcoekchaaGreatDoorWe
import Derived.Test.YtoldjgmcoekchaaGreatDoorWo
import Derived.Test.YtoldjgmcoekchaaGreatDoorWg
import Derived.Lib.Mul64
import Derived.Test.YtoldjgmcoekchaaGreatDoorWh
set_option linter.all false
set_option maxHeartbeats 16000000
set_option maxRecDepth 100000
namespace Go.Proofs.YtoldjgmcoekchaaGreatDoor
open Go Go.RowKit Go.V Go.E
set_option maxRecDepth 20000
def w8V {R:Type} (a b c d e f g h:Nat) (k:Rope→R):R:=ropeL true [.int .u64 a,.int .u64 b,.int .u64 c,.int .u64 d,.int .u64 e,.int .u64 f,.int .u64 g,.int .u64 h] k
def at8 {R:Type} (bad:R) (r:Rope) (k:Nat→Nat→Nat→Nat→Nat→Nat→Nat→Nat→R):R:=okK bad (Nat.beq r.len 8) (match r.atoms 8 0 with
 | some [.int .u64 a,.int .u64 b,.int .u64 c,.int .u64 d,.int .u64 e,.int .u64 f,.int .u64 g,.int .u64 h]=>okK bad (Nat.ble a 18446744073709551615) (okK bad (Nat.ble b 18446744073709551615) (okK bad (Nat.ble c 18446744073709551615) (okK bad (Nat.ble d 18446744073709551615) (okK bad (Nat.ble e 18446744073709551615) (okK bad (Nat.ble f 18446744073709551615) (okK bad (Nat.ble g 18446744073709551615) (okK bad (Nat.ble h 18446744073709551615) (k a b c d e f g h))))))))
 | _=>bad)
noncomputable def pieceV {R:Type} (bad:R) (r q:Rope) (k:V→R):R:=match q.bytes with
 | some (n,s)=>okK bad (Nat.beq n 128) (at8 bad r λ a b c d e f g h=>pieceN a b c d e f g h s λ a b c d e f g h=>w8V a b c d e f g h λ r=>k (.agg r))
 | none=>bad
noncomputable def conPiece:Con:=⟨λ bad vs h _ _ nx k=>match vs with
 | [.agg r,.agg q]=>pieceV bad r q λ v=>k v h nx
 | _=>bad⟩
noncomputable def conRPiece:Con:=⟨λ bad vs h _ _ nx k=>match vs with
 | [.agg r,.at (.slice b o n c)]=>okK bad (Nat.beq n 128) (cellsK bad h b λ _ x=>x.sub bad true o 128 λ q=>pieceV bad r q λ v=>k v h nx)
 | [.agg r,.at (.slu b o n z)]=>okK bad (Nat.beq n 128) (cellsK bad h b λ _ x=>x.sub bad true o 128 λ q=>pieceV bad r q λ v=>k v h nx)
 | _=>bad⟩
section
variable [Gl]
theorem wB_of {a:Nat} (ha:a<18446744073709551616) {ρ : Plc} {v:Value} (h:AR ρ (.int .u64 a) v):v=wB (BitVec.ofNat 64 a):=by
 cases h
 rw [wrapM]
 show _=Value.int .u64 ((BitVec.ofNat 64 a).toNat:Int)
 rw [BitVec.toNat_ofNat]
theorem ofN {a:Nat} (ha:a<18446744073709551616):(BitVec.ofNat 64 a).toNat=a:=by
 rw [BitVec.toNat_ofNat];exact Nat.mod_eq_of_lt ha
theorem wB_ar (x:BitVec 64) (ρ : Plc):AR ρ (.int .u64 x.toNat) (wB x):=by
 have:=AR.int (ρ:=ρ) .u64 x.toNat x.isLt
 rwa [wrapB] at this
theorem at8_ok {R:Type} {bad:R} (r:Rope) (k:Nat→Nat→Nat→Nat→Nat→Nat→Nat→Nat→R) {S:R→Prop}
  (hk:∀ s:St,(∀ ρ cs,RR ρ r cs→cs=s.l.map wB)→Out bad (k s.a.toNat s.b.toNat s.c.toNat s.d.toNat s.e.toNat s.f.toNat s.g.toNat s.h.toNat) S):Out bad (at8 bad r k) S:=by
 unfold at8
 refine out_if λ hlen=>?_
 split
 ·rename_i a b c d e f g h hr
  refine out_if λ ha=>out_if λ hb=>out_if λ hc=>out_if λ hd=>out_if λ he=>out_if λ hf=>out_if λ hg=>out_if λ hh=>?_
  have ha:=Nat.lt_succ_of_le (Nat.le_of_ble_eq_true ha)
  have hb:=Nat.lt_succ_of_le (Nat.le_of_ble_eq_true hb)
  have hc:=Nat.lt_succ_of_le (Nat.le_of_ble_eq_true hc)
  have hd:=Nat.lt_succ_of_le (Nat.le_of_ble_eq_true hd)
  have he:=Nat.lt_succ_of_le (Nat.le_of_ble_eq_true he)
  have hf:=Nat.lt_succ_of_le (Nat.le_of_ble_eq_true hf)
  have hg:=Nat.lt_succ_of_le (Nat.le_of_ble_eq_true hg)
  have hh:=Nat.lt_succ_of_le (Nat.le_of_ble_eq_true hh)
  have:=hk ⟨BitVec.ofNat 64 a,BitVec.ofNat 64 b,BitVec.ofNat 64 c,BitVec.ofNat 64 d,BitVec.ofNat 64 e,BitVec.ofNat 64 f,BitVec.ofNat 64 g,BitVec.ofNat 64 h⟩ λ ρ cs hcs=>?_
  ·simp only [ofN ha,ofN hb,ofN hc,ofN hd,ofN he,ofN hf,ofN hg,ofN hh] at this
   exact this
  ·obtain ⟨_,h2⟩:=atoms_ok hcs 8 0 _ hr
   have hl:=hcs.len
   rw [Nat.eq_of_beq_eq_true hlen] at hl
   match cs,hl with
   | [c0,c1,c2,c3,c4,c5,c6,c7],_ =>
    have e0:=wB_of ha (h2 0 _ _ rfl rfl)
    have e1:=wB_of hb (h2 1 _ _ rfl rfl)
    have e2:=wB_of hc (h2 2 _ _ rfl rfl)
    have e3:=wB_of hd (h2 3 _ _ rfl rfl)
    have e4:=wB_of he (h2 4 _ _ rfl rfl)
    have e5:=wB_of hf (h2 5 _ _ rfl rfl)
    have e6:=wB_of hg (h2 6 _ _ rfl rfl)
    have e7:=wB_of hh (h2 7 _ _ rfl rfl)
    subst e0 e1 e2 e3 e4 e5 e6 e7
    rfl
 ·exact .inl rfl
theorem at8_par (r:Rope):(∀ k,at8 false r k=false)∨∃ s:St,∀ k,at8 false r k=k s.a.toNat s.b.toNat s.c.toNat s.d.toNat s.e.toNat s.f.toNat s.g.toNat s.h.toNat:=by
 unfold at8
 cases hl:Nat.beq r.len 8 with
 | false=>exact .inl λ _=>rfl
 | true =>
  split
  ·rename_i a b c d e f g h hr
   cases ha:Nat.ble a 18446744073709551615 with
   | false=>exact .inl λ _=>rfl
   | true =>
    cases hb:Nat.ble b 18446744073709551615 with
    | false=>exact .inl λ _=>rfl
    | true =>
     cases hc:Nat.ble c 18446744073709551615 with
     | false=>exact .inl λ _=>rfl
     | true =>
      cases hd:Nat.ble d 18446744073709551615 with
      | false=>exact .inl λ _=>rfl
      | true =>
       cases he:Nat.ble e 18446744073709551615 with
       | false=>exact .inl λ _=>rfl
       | true =>
        cases hf:Nat.ble f 18446744073709551615 with
        | false=>exact .inl λ _=>rfl
        | true =>
         cases hg:Nat.ble g 18446744073709551615 with
         | false=>exact .inl λ _=>rfl
         | true =>
          cases hh:Nat.ble h 18446744073709551615 with
          | false=>exact .inl λ _=>rfl
          | true =>
           refine .inr ⟨⟨BitVec.ofNat 64 a,BitVec.ofNat 64 b,BitVec.ofNat 64 c,BitVec.ofNat 64 d,BitVec.ofNat 64 e,BitVec.ofNat 64 f,BitVec.ofNat 64 g,BitVec.ofNat 64 h⟩,λ k=>?_⟩
           have ha:=Nat.lt_succ_of_le (Nat.le_of_ble_eq_true ha)
           have hb:=Nat.lt_succ_of_le (Nat.le_of_ble_eq_true hb)
           have hc:=Nat.lt_succ_of_le (Nat.le_of_ble_eq_true hc)
           have hd:=Nat.lt_succ_of_le (Nat.le_of_ble_eq_true hd)
           have he:=Nat.lt_succ_of_le (Nat.le_of_ble_eq_true he)
           have hf:=Nat.lt_succ_of_le (Nat.le_of_ble_eq_true hf)
           have hg:=Nat.lt_succ_of_le (Nat.le_of_ble_eq_true hg)
           have hh:=Nat.lt_succ_of_le (Nat.le_of_ble_eq_true hh)
           simp only [ofN ha,ofN hb,ofN hc,ofN hd,ofN he,ofN hf,ofN hg,ofN hh]
           rfl
  ·exact .inl λ _=>rfl
theorem ropeL_par:∀ l:List A,S.Par λ k=>ropeL true l k
 | []=>S.Par.pure _
 | a::l=>(ropeL_par l).bind (G:=λ x k=>jn true 1 (ofA a) x k) λ x=>S.jn_par _ _ _
theorem pieceV_par (r q:Rope):S.Par λ k=>pieceV false r q k:=by
 unfold pieceV
 split
 ·rename_i n s hq
  cases hn:Nat.beq n 128 with
  | false=>exact S.Par.bad
  | true =>
   rcases at8_par r with h|⟨st,h⟩
   ·exact .inl λ k=>h _
   ·obtain ⟨e,_,he⟩:=pieceN_ok st s
    rcases ropeL_par [.int .u64 e.a.toNat,.int .u64 e.b.toNat,.int .u64 e.c.toNat,.int .u64 e.d.toNat,.int .u64 e.e.toNat,.int .u64 e.f.toNat,.int .u64 e.g.toNat,.int .u64 e.h.toNat] with h2|⟨x,h2⟩
    ·exact .inl λ k=>(h _).trans ((he _ _).trans (h2 λ r=>k (.agg r)))
    ·exact .inr ⟨.agg x,λ k=>(h _).trans ((he _ _).trans (h2 λ r=>k (.agg r)))⟩
 ·exact S.Par.bad
theorem conPiece_p:S.ConP conPiece:=by
 intro vs h fl fd nx
 unfold conPiece
 dsimp only
 split
 ·rename_i r q
  exact (pieceV_par r q).bind (G:=λ v (k:S.Out3→Bool)=>k (v,h,nx)) λ v=>S.Par.pure (α:=S.Out3) _
 ·exact S.Par.bad
theorem conRPiece_p:S.ConP conRPiece:=by
 intro vs h fl fd nx
 unfold conRPiece
 dsimp only
 split
 ·rename_i r b o n c
  refine S.Par.ite (F:=λ k:S.Out3→Bool=>cellsK false h b λ _ x=>x.sub false true o 128 λ q=>pieceV false r q λ v=>k (v,h,nx)) (G:=λ _=>false) _ ?_ S.Par.bad
  unfold cellsK
  split
  ·rename_i t x hb
   exact (S.sub_par x o 128).bind (G:=λ q (k:S.Out3→Bool)=>pieceV false r q λ v=>k (v,h,nx)) λ q=>(pieceV_par r q).bind (G:=λ v (k:S.Out3→Bool)=>k (v,h,nx)) λ v=>S.Par.pure (α:=S.Out3) _
  ·exact S.Par.bad
 ·rename_i r b o n z
  refine S.Par.ite (F:=λ k:S.Out3→Bool=>cellsK false h b λ _ x=>x.sub false true o 128 λ q=>pieceV false r q λ v=>k (v,h,nx)) (G:=λ _=>false) _ ?_ S.Par.bad
  unfold cellsK
  split
  ·rename_i t x hb
   exact (S.sub_par x o 128).bind (G:=λ q (k:S.Out3→Bool)=>pieceV false r q λ v=>k (v,h,nx)) λ q=>(pieceV_par r q).bind (G:=λ v (k:S.Out3→Bool)=>k (v,h,nx)) λ v=>S.Par.pure (α:=S.Out3) _
  ·exact S.Par.bad
 ·exact S.Par.bad
theorem nbs_cells (s:Nat):pbs (nbs s)=bcells 128 s:=by
 unfold pbs nbs bcells
 rw [List.map_map]
 rfl
theorem pieceV_ok {R:Type} {bad:R} (r q:Rope) (k:V→R):Ok1 bad (pieceV bad r q k) k λ v=>∃ (s:St) (n:Nat),(∀ ρ cs,RR ρ r cs→cs=s.l.map wB)∧(∀ ρ cs,RR ρ q cs→cs=pbs (nbs n))∧∀ ρ,VR ρ v (.agg ((pieceB s (nbs n)).map wB).toArray):=by
 show Out bad _ λ e=>∃ v,(∃ (s:St) (n:Nat),(∀ ρ cs,RR ρ r cs→cs=s.l.map wB)∧(∀ ρ cs,RR ρ q cs→cs=pbs (nbs n))∧∀ ρ,VR ρ v (.agg ((pieceB s (nbs n)).map wB).toArray))∧e=k v
 unfold pieceV
 split
 ·rename_i n s hq
  refine out_if λ hn=>?_
  cases Nat.eq_of_beq_eq_true hn
  refine at8_ok r _ λ st hst=>?_
  obtain ⟨e,he1,he2⟩:=pieceN_ok st s
  rw [he2]
  refine (ropeL_ok true _ _).out λ x hx=>.inr ⟨_,⟨st,s,hst,λ ρ cs hcs=>?_,λ ρ=>?_⟩,rfl⟩
  ·rw [nbs_cells];exact (rope_bytes hcs hq).1
  ·rw [he1]
   refine .agg _ _ (hx ρ (e.l.map wB) rfl λ i a v h1 h2=>?_)
   rcases i with _|_|_|_|_|_|_|_|i
   all_goals first
    | (simp only [St.l,List.map_cons,List.map_nil,List.getElem?_cons_zero,List.getElem?_cons_succ,Option.some.injEq,List.getElem?_nil,reduceCtorEq] at h1 h2;subst h1 h2;exact wB_ar _ _)
    | (simp at h1)
 ·exact .inl rfl
theorem conPiece_ok [LoopTab]:ConOk Tryz.prog 268 conPiece:=by
 intro R bad fl fd hfl vs h nx k
 unfold conPiece
 dsimp only
 split
 ·rename_i r q
  refine (pieceV_ok r q _).out λ v ⟨s,n,h1,h2,h3⟩=>.inr ⟨v,h,nx,λ ρ w xs g0 hg0 hxs hrel=>?_,rfl⟩
  cases hg0
  cases hxs with
  | cons _ x _ xs hx hxs =>
   cases hxs with
   | cons _ y _ xs hy hxs =>
    cases hxs
    cases hx with
    | agg _ cs hcs =>
     cases hy with
     | agg _ ds hds =>
      cases h1 ρ cs hcs
      cases h2 ρ ds hds
      show Res Tryz.prog _ ((callFunc 268 _).run Tryz.prog w)
      rw [enters_of (fi:=fiOf Tryz.f268) fn268]
      exact Calls.mono (piece_c s (nbs n) (nbs_len n) (nbs_lt n) w) λ en w' ⟨z,k1,k2,k3⟩=>⟨z,k1,ρ,by rw [k2];exact h3 ρ,Stp.ofGrow hrel k3⟩
 ·exact .inl rfl
theorem conRPiece_ok [LoopTab]:ConOk Tryz.prog 120 conRPiece:=by
 intro R bad fl fd hfl vs h nx k
 unfold conRPiece
 dsimp only
 split
 ·rename_i r b o n c
  refine out_if λ hn=>?_
  cases Nat.eq_of_beq_eq_true hn
  rcases cellsK_ok (bad:=bad) h b (λ _ x=>x.sub bad true o 128 λ q=>pieceV bad r q λ v=>k v h nx) with e|⟨t,x,hb,e⟩
  ·exact .inl e
  rw [e]
  refine (sub_ok bad true x o 128 _).out λ q hq=>?_
  refine (pieceV_ok r q _).out λ v ⟨s,n,h1,h2,h3⟩=>.inr ⟨v,h,nx,λ ρ w xs g0 hg0 hxs hrel=>?_,rfl⟩
  cases hg0
  cases hxs with
  | cons _ x _ xs hx hxs =>
   cases hxs with
   | cons _ y _ xs hy hxs =>
    cases hxs
    have hy:=hy.atom
    cases hx with
    | agg _ cs hcs =>
     cases hy with
     | slice _ _ _ _ o' p hp hn hcm ho =>
      cases h1 ρ cs hcs
      obtain ⟨arr,fr,ds,g1,g2,g3,g4,g5⟩:=hrel.cells hb hp
      obtain ⟨hl,hrr⟩:=hq ρ ds g3
      have e2:=h2 ρ _ hrr
      have ho:o'=p.sh+o:=by omega
      have hsl:Sl (λ _=>True) w 1 (some ⟨p.blk,o',none⟩) 128 c (pbs (nbs n)):=by
       refine ⟨by simp [pbs,nbs_len],hn,hcm,(λ h=>by cases h),λ _=>⟨rfl,trivial,(Array.getElem?_eq_some_iff.1 g1).1,λ j v hj=>?_⟩⟩
       rw [← e2,List.getElem?_take] at hj
       split at hj
       ·rw [List.getElem?_drop] at hj
        have:=g4 _ _ hj
        subst ho
        have:=cell_at (o:=p.sh+o) (j:=j) g1 (by rw [Nat.add_assoc];exact this)
        rwa [Addr.add_lit] at this
       ·cases hj
      show Res Tryz.prog _ ((callFunc 120 _).run Tryz.prog w)
      rw [enters_of (fi:=fiOf Tryz.f120) fn120]
      exact Calls.mono (rpiece_c _ s (nbs n) (nbs_len n) (nbs_lt n) _ c w hsl) λ en w' ⟨z,k1,k2,k3⟩=>⟨z,k1,ρ,by rw [k2];exact h3 ρ,Stp.ofGrow hrel k3⟩
 ·rename_i r b o n z
  refine out_if λ hn=>?_
  cases Nat.eq_of_beq_eq_true hn
  rcases cellsK_ok (bad:=bad) h b (λ _ x=>x.sub bad true o 128 λ q=>pieceV bad r q λ v=>k v h nx) with e|⟨t,x,hb,e⟩
  ·exact .inl e
  rw [e]
  refine (sub_ok bad true x o 128 _).out λ q hq=>?_
  refine (pieceV_ok r q _).out λ v ⟨s,n,h1,h2,h3⟩=>.inr ⟨v,h,nx,λ ρ w xs g0 hg0 hxs hrel=>?_,rfl⟩
  cases hg0
  cases hxs with
  | cons _ x _ xs hx hxs =>
   cases hxs with
   | cons _ y _ xs hy hxs =>
    cases hxs
    have hy:=hy.atom
    cases hx with
    | agg _ cs hcs =>
     cases hy with
     | slu _ _ _ _ c o' p hp hn hcm ho hsz =>
      cases h1 ρ cs hcs
      obtain ⟨arr,fr,ds,g1,g2,g3,g4,g5⟩:=hrel.cells hb hp
      obtain ⟨hl,hrr⟩:=hq ρ ds g3
      have e2:=h2 ρ _ hrr
      have ho:o'=p.sh+o:=by omega
      have hsl:Sl (λ _=>True) w 1 (some ⟨p.blk,o',none⟩) 128 c (pbs (nbs n)):=by
       refine ⟨by simp [pbs,nbs_len],hn,hcm,(λ h=>by cases h),λ _=>⟨rfl,trivial,(Array.getElem?_eq_some_iff.1 g1).1,λ j v hj=>?_⟩⟩
       rw [← e2,List.getElem?_take] at hj
       split at hj
       ·rw [List.getElem?_drop] at hj
        have:=g4 _ _ hj
        subst ho
        have:=cell_at (o:=p.sh+o) (j:=j) g1 (by rw [Nat.add_assoc];exact this)
        rwa [Addr.add_lit] at this
       ·cases hj
      show Res Tryz.prog _ ((callFunc 120 _).run Tryz.prog w)
      rw [enters_of (fi:=fiOf Tryz.f120) fn120]
      exact Calls.mono (rpiece_c _ s (nbs n) (nbs_len n) (nbs_lt n) _ c w hsl) λ en w' ⟨z,k1,k2,k3⟩=>⟨z,k1,ρ,by rw [k2];exact h3 ρ,Stp.ofGrow hrel k3⟩
 ·exact .inl rfl
end
end Go.Proofs.YtoldjgmcoekchaaGreatDoor
namespace Go.Proofs.YtoldjgmcoekchaaGreatDoor
open Go Go.RowKit Go.V
abbrev B1 (x:Nat):Value:=.int .u8 (x:Int)
abbrev W1 (x:Nat):Value:=.int .u64 (x:Int)
def b8 (x:Nat):List Value:=[B1 (x%256),B1 (x / 256%256),B1 (x / 65536%256),B1 (x / 16777216%256),B1 (x / 4294967296%256),B1 (x / 1099511627776%256),B1 (x / 281474976710656%256),B1 (x / 72057594037927936%256)]
def q0 (N:Nat):Nat:=N%18446744073709551616
def q1 (N:Nat):Nat:=N / 18446744073709551616%18446744073709551616
def q2 (N:Nat):Nat:=N / 340282366920938463463374607431768211456%18446744073709551616
def q3 (N:Nat):Nat:=N / 6277101735386680763835789423207666416102355444464034512896%18446744073709551616
def numL (N:Nat):List Value:=b8 (q0 N)++(b8 (q1 N)++(b8 (q2 N)++b8 (q3 N)))
abbrev num (N:Nat):Value:=.agg (numL N).toArray
theorem q0_lt (N:Nat):q0 N<18446744073709551616:=Nat.mod_lt _ (by decide)
theorem q1_lt (N:Nat):q1 N<18446744073709551616:=Nat.mod_lt _ (by decide)
theorem q2_lt (N:Nat):q2 N<18446744073709551616:=Nat.mod_lt _ (by decide)
theorem q3_lt (N:Nat):q3 N<18446744073709551616:=Nat.mod_lt _ (by decide)
theorem octets {x:Nat} (h:x<18446744073709551616):x%256+x / 256%256*256+x / 65536%256*65536+x / 16777216%256*16777216+x / 4294967296%256*4294967296+x / 1099511627776%256*1099511627776+x / 281474976710656%256*281474976710656+x / 72057594037927936%256*72057594037927936=x:=by omega
def someQ (N:Nat):Nat→List Value
 | 0=>[W1 0,W1 0,W1 0,W1 0]
 | 1=>[W1 (q0 N),W1 0,W1 0,W1 0]
 | 2=>[W1 (q0 N),W1 (q1 N),W1 0,W1 0]
 | 3=>[W1 (q0 N),W1 (q1 N),W1 (q2 N),W1 0]
 | _=>[W1 (q0 N),W1 (q1 N),W1 (q2 N),W1 (q3 N)]
theorem quarters_c (N:Nat) (w:World) :
  Calls Tryz.prog 376 #[num N] w (Ret λ v w'=>v=.agg #[W1 (q0 N),W1 (q1 N),W1 (q2 N),W1 (q3 N)]∧Grow w w'):=by
 refine V.calls (args:=[_]) Tryz.func376 rfl Tryz.ntmps376 rfl rfl ?_
 have h0:=q0_lt N
 repeat (first|(refine TL.isMove ?_;refine TL.pure rfl rfl ?_)|refine TL.nil ?_|refine thenQ_normal ?_|refine T.seq ?_|refine T.region ?_|refine T.block ?_|(refine TL.isBox ?_;(refine TL.box rfl rfl rfl ?_;intro bk w' hg hbk hsz hsz'))|(refine TL.isAlloc ?_;(refine TL.alloc rfl rfl ?_;intro bk w' hg hbk hsz hsz')))
 rename_i b1 w1 g1 k1 s1 t1 b2 w2 g2 k2 s2 t2
 refine T.loop (S:=Nat) (λ k=>[(6,.int .i64 (k:Int)),(3,.pointer (some ⟨bk,0,none⟩)),(2,.pointer (some ⟨b2,0,none⟩)),(1,.pointer (some ⟨b1,0,none⟩))]) (λ k w'=>k≤4∧Blk w' b1 269 (numL N)∧Blk w' b2 336 [W1 0,W1 0,W1 0,W1 0]∧Blk w' bk 336 (someQ N k)∧Grow w w') (λ k=>4-k) 0 ⟨rfl,rfl,rfl,rfl,trivial⟩ ⟨by omega,yB,yB,yB,yG⟩ ?_
 rintro k w' ⟨hk,m1,m2,m3,hg⟩
 clear k1 k2 hbk
 obtain rfl|rfl|rfl|rfl|rfl:k=0∨k=1∨k=2∨k=3∨k=4:=by omega
 ·refine T.weaken (e':=[(6,.int .i64 0),(3,_),(2,_),(1,_)]) ?_ ⟨rfl,rfl,rfl,rfl,trivial⟩
  have hq:=q0_lt N
  repeat (first|(refine TL.isMove ?_;refine TL.pure rfl rfl ?_)|(refine TL.isAsg ?_;refine TL.pure rfl rfl ?_)|(refine TL.isAdd ?_;refine TL.addI rfl rfl (by omega) (by omega) rfl ?_)|(refine TL.isMul ?_;refine TL.mulI rfl rfl (by omega) (by omega) rfl ?_)|refine TL.nil ?_|refine thenQ_normal ?_|refine T.seq ?_|refine T.region ?_|refine T.block ?_|(refine TL.isBin ?_;refine TL.pure rfl rfl ?_)|(refine TL.isSlice ?_;refine TL.sliceArr rfl (bnd_lit rfl) (bnd_lit rfl) (by omega) (by omega) (by omega) rfl rfl ?_)|refine T.cond_true rfl ?_|refine T.skip ?_)
  apply T.any 47 [is _,is _,is _,is _,is _,is _,is _,is _,is _,is _,is _,is _,is _,is _,is _,is _,is _,is _,is _,is _,is _,is _,is _,is _,is _,is _,is _,is _,is _,is _,is _,is _,is _,is _,is _,is _,is _,is _,is _,is _,is _,is _,is _,is _,is _,is _,is _];(· kernel_rfl);(· ((repeat' (first|exact allDo_end|refine allDo_cons ?_ ?_));(iterate 47 (· ((refine does_mk0 rfl rfl rfl ?_);( intro wq _ _ hgq;(repeat (refine need_cons rfl rfl ?_;intro vq hvq;try (obtain rfl:=hvq)));(refine need_nil ?_));(repeat (first|(refine TL.isMove ?_;refine TL.pure rfl rfl ?_)|refine TL.load1 rfl yM rfl ?_|(refine TL.isIndex ?_;refine TL.indexAt rfl rfl (by omega) rfl rfl ?_)|refine TL.nil ?_|(refine TL.isOr ?_;refine TL.orM rfl rfl rfl rfl rfl (by omega) (by omega) rfl rfl ?_)|(refine TL.isShl ?_;refine TL.shlU rfl rfl rfl rfl rfl (by omega) rfl ?_)|(refine TL.isConv ?_;refine TL.convU rfl rfl (by omega) rfl ?_)));exact one_end rfl yG rfl)))));(rintro _ _ _ hgr _ _;(repeat (refine need_cons rfl rfl ?_;intro vq hvq;try (obtain rfl:=hvq)));(refine need_nil ?_))
  rw [octets hq]
  repeat (first|(refine TL.isMove ?_;refine TL.pure rfl rfl ?_)|(refine TL.isIndex ?_;refine TL.indexArr rfl rfl (by omega) rfl rfl ?_)|(refine TL.isAdd ?_;refine TL.addI rfl rfl (by omega) (by omega) rfl ?_)|refine TL.nil ?_|refine thenQ_normal ?_|refine T.region ?_|refine blockQ_normal ?_|(refine TL.isStore ?_;(refine TL.store1 rfl rfl yB (by exact rfl) (by exact rfl) (by exact rfl) ?_;intro w' hu hbk hsz)))
  exact loopQ_normal 1 ⟨rfl,rfl,rfl,rfl,trivial⟩ ⟨by omega,yB,yB,by assumption,yG⟩ (by omega)
 ·refine T.weaken (e':=[(6,.int .i64 1),(3,_),(2,_),(1,_)]) ?_ ⟨rfl,rfl,rfl,rfl,trivial⟩
  have hq:=q1_lt N
  repeat (first|(refine TL.isMove ?_;refine TL.pure rfl rfl ?_)|(refine TL.isAsg ?_;refine TL.pure rfl rfl ?_)|(refine TL.isAdd ?_;refine TL.addI rfl rfl (by omega) (by omega) rfl ?_)|(refine TL.isMul ?_;refine TL.mulI rfl rfl (by omega) (by omega) rfl ?_)|refine TL.nil ?_|refine thenQ_normal ?_|refine T.seq ?_|refine T.region ?_|refine T.block ?_|(refine TL.isBin ?_;refine TL.pure rfl rfl ?_)|(refine TL.isSlice ?_;refine TL.sliceArr rfl (bnd_lit rfl) (bnd_lit rfl) (by omega) (by omega) (by omega) rfl rfl ?_)|refine T.cond_true rfl ?_|refine T.skip ?_)
  apply T.any 47 [is _,is _,is _,is _,is _,is _,is _,is _,is _,is _,is _,is _,is _,is _,is _,is _,is _,is _,is _,is _,is _,is _,is _,is _,is _,is _,is _,is _,is _,is _,is _,is _,is _,is _,is _,is _,is _,is _,is _,is _,is _,is _,is _,is _,is _,is _,is _];(· kernel_rfl);(· ((repeat' (first|exact allDo_end|refine allDo_cons ?_ ?_));(iterate 47 (· ((refine does_mk0 rfl rfl rfl ?_);( intro wq _ _ hgq;(repeat (refine need_cons rfl rfl ?_;intro vq hvq;try (obtain rfl:=hvq)));(refine need_nil ?_));(repeat (first|(refine TL.isMove ?_;refine TL.pure rfl rfl ?_)|refine TL.load1 rfl yM rfl ?_|(refine TL.isIndex ?_;refine TL.indexAt rfl rfl (by omega) rfl rfl ?_)|refine TL.nil ?_|(refine TL.isOr ?_;refine TL.orM rfl rfl rfl rfl rfl (by omega) (by omega) rfl rfl ?_)|(refine TL.isShl ?_;refine TL.shlU rfl rfl rfl rfl rfl (by omega) rfl ?_)|(refine TL.isConv ?_;refine TL.convU rfl rfl (by omega) rfl ?_)));exact one_end rfl yG rfl)))));(rintro _ _ _ hgr _ _;(repeat (refine need_cons rfl rfl ?_;intro vq hvq;try (obtain rfl:=hvq)));(refine need_nil ?_))
  rw [octets hq]
  repeat (first|(refine TL.isMove ?_;refine TL.pure rfl rfl ?_)|(refine TL.isIndex ?_;refine TL.indexArr rfl rfl (by omega) rfl rfl ?_)|(refine TL.isAdd ?_;refine TL.addI rfl rfl (by omega) (by omega) rfl ?_)|refine TL.nil ?_|refine thenQ_normal ?_|refine T.region ?_|refine blockQ_normal ?_|(refine TL.isStore ?_;(refine TL.store1 rfl rfl yB (by exact rfl) (by exact rfl) (by exact rfl) ?_;intro w' hu hbk hsz)))
  exact loopQ_normal 2 ⟨rfl,rfl,rfl,rfl,trivial⟩ ⟨by omega,yB,yB,by assumption,yG⟩ (by omega)
 ·refine T.weaken (e':=[(6,.int .i64 2),(3,_),(2,_),(1,_)]) ?_ ⟨rfl,rfl,rfl,rfl,trivial⟩
  have hq:=q2_lt N
  repeat (first|(refine TL.isMove ?_;refine TL.pure rfl rfl ?_)|(refine TL.isAsg ?_;refine TL.pure rfl rfl ?_)|(refine TL.isAdd ?_;refine TL.addI rfl rfl (by omega) (by omega) rfl ?_)|(refine TL.isMul ?_;refine TL.mulI rfl rfl (by omega) (by omega) rfl ?_)|refine TL.nil ?_|refine thenQ_normal ?_|refine T.seq ?_|refine T.region ?_|refine T.block ?_|(refine TL.isBin ?_;refine TL.pure rfl rfl ?_)|(refine TL.isSlice ?_;refine TL.sliceArr rfl (bnd_lit rfl) (bnd_lit rfl) (by omega) (by omega) (by omega) rfl rfl ?_)|refine T.cond_true rfl ?_|refine T.skip ?_)
  apply T.any 47 [is _,is _,is _,is _,is _,is _,is _,is _,is _,is _,is _,is _,is _,is _,is _,is _,is _,is _,is _,is _,is _,is _,is _,is _,is _,is _,is _,is _,is _,is _,is _,is _,is _,is _,is _,is _,is _,is _,is _,is _,is _,is _,is _,is _,is _,is _,is _];(· kernel_rfl);(· ((repeat' (first|exact allDo_end|refine allDo_cons ?_ ?_));(iterate 47 (· ((refine does_mk0 rfl rfl rfl ?_);( intro wq _ _ hgq;(repeat (refine need_cons rfl rfl ?_;intro vq hvq;try (obtain rfl:=hvq)));(refine need_nil ?_));(repeat (first|(refine TL.isMove ?_;refine TL.pure rfl rfl ?_)|refine TL.load1 rfl yM rfl ?_|(refine TL.isIndex ?_;refine TL.indexAt rfl rfl (by omega) rfl rfl ?_)|refine TL.nil ?_|(refine TL.isOr ?_;refine TL.orM rfl rfl rfl rfl rfl (by omega) (by omega) rfl rfl ?_)|(refine TL.isShl ?_;refine TL.shlU rfl rfl rfl rfl rfl (by omega) rfl ?_)|(refine TL.isConv ?_;refine TL.convU rfl rfl (by omega) rfl ?_)));exact one_end rfl yG rfl)))));(rintro _ _ _ hgr _ _;(repeat (refine need_cons rfl rfl ?_;intro vq hvq;try (obtain rfl:=hvq)));(refine need_nil ?_))
  rw [octets hq]
  repeat (first|(refine TL.isMove ?_;refine TL.pure rfl rfl ?_)|(refine TL.isIndex ?_;refine TL.indexArr rfl rfl (by omega) rfl rfl ?_)|(refine TL.isAdd ?_;refine TL.addI rfl rfl (by omega) (by omega) rfl ?_)|refine TL.nil ?_|refine thenQ_normal ?_|refine T.region ?_|refine blockQ_normal ?_|(refine TL.isStore ?_;(refine TL.store1 rfl rfl yB (by exact rfl) (by exact rfl) (by exact rfl) ?_;intro w' hu hbk hsz)))
  exact loopQ_normal 3 ⟨rfl,rfl,rfl,rfl,trivial⟩ ⟨by omega,yB,yB,by assumption,yG⟩ (by omega)
 ·refine T.weaken (e':=[(6,.int .i64 3),(3,_),(2,_),(1,_)]) ?_ ⟨rfl,rfl,rfl,rfl,trivial⟩
  have hq:=q3_lt N
  repeat (first|(refine TL.isMove ?_;refine TL.pure rfl rfl ?_)|(refine TL.isAsg ?_;refine TL.pure rfl rfl ?_)|(refine TL.isAdd ?_;refine TL.addI rfl rfl (by omega) (by omega) rfl ?_)|(refine TL.isMul ?_;refine TL.mulI rfl rfl (by omega) (by omega) rfl ?_)|refine TL.nil ?_|refine thenQ_normal ?_|refine T.seq ?_|refine T.region ?_|refine T.block ?_|(refine TL.isBin ?_;refine TL.pure rfl rfl ?_)|(refine TL.isSlice ?_;refine TL.sliceArr rfl (bnd_lit rfl) (bnd_lit rfl) (by omega) (by omega) (by omega) rfl rfl ?_)|refine T.cond_true rfl ?_|refine T.skip ?_)
  apply T.any 47 [is _,is _,is _,is _,is _,is _,is _,is _,is _,is _,is _,is _,is _,is _,is _,is _,is _,is _,is _,is _,is _,is _,is _,is _,is _,is _,is _,is _,is _,is _,is _,is _,is _,is _,is _,is _,is _,is _,is _,is _,is _,is _,is _,is _,is _,is _,is _];(· kernel_rfl);(· ((repeat' (first|exact allDo_end|refine allDo_cons ?_ ?_));(iterate 47 (· ((refine does_mk0 rfl rfl rfl ?_);( intro wq _ _ hgq;(repeat (refine need_cons rfl rfl ?_;intro vq hvq;try (obtain rfl:=hvq)));(refine need_nil ?_));(repeat (first|(refine TL.isMove ?_;refine TL.pure rfl rfl ?_)|refine TL.load1 rfl yM rfl ?_|(refine TL.isIndex ?_;refine TL.indexAt rfl rfl (by omega) rfl rfl ?_)|refine TL.nil ?_|(refine TL.isOr ?_;refine TL.orM rfl rfl rfl rfl rfl (by omega) (by omega) rfl rfl ?_)|(refine TL.isShl ?_;refine TL.shlU rfl rfl rfl rfl rfl (by omega) rfl ?_)|(refine TL.isConv ?_;refine TL.convU rfl rfl (by omega) rfl ?_)));exact one_end rfl yG rfl)))));(rintro _ _ _ hgr _ _;(repeat (refine need_cons rfl rfl ?_;intro vq hvq;try (obtain rfl:=hvq)));(refine need_nil ?_))
  rw [octets hq]
  repeat (first|(refine TL.isMove ?_;refine TL.pure rfl rfl ?_)|(refine TL.isIndex ?_;refine TL.indexArr rfl rfl (by omega) rfl rfl ?_)|(refine TL.isAdd ?_;refine TL.addI rfl rfl (by omega) (by omega) rfl ?_)|refine TL.nil ?_|refine thenQ_normal ?_|refine T.region ?_|refine blockQ_normal ?_|(refine TL.isStore ?_;(refine TL.store1 rfl rfl yB (by exact rfl) (by exact rfl) (by exact rfl) ?_;intro w' hu hbk hsz)))
  exact loopQ_normal 4 ⟨rfl,rfl,rfl,rfl,trivial⟩ ⟨by omega,yB,yB,by assumption,yG⟩ (by omega)
 ·refine T.weaken (e':=[(6,.int .i64 4),(3,_),(2,_),(1,_)]) ?_ ⟨rfl,rfl,rfl,rfl,trivial⟩
  repeat (first|(refine TL.isLoad ?_;refine TL.loadW rfl yB (by exact rfl) rfl ?_)|refine TL.nil ?_|refine thenQ_normal ?_|refine T.seq ?_|refine T.region ?_|(refine TL.isBin ?_;refine TL.pure rfl rfl ?_)|(refine TL.isStore ?_;(refine TL.storeWh rfl rfl yB (by exact rfl) (by exact rfl) (by exact rfl) ?_;intro w' hu hbk hsz))|refine T.cond_false rfl ?_|refine T.ret ?_|refine T.exit ?_|refine thenQ_exit ?_|refine blockQ_hit ?_|refine loopQ_exit ?_)
  exact retC rfl (load_whole (by assumption) rfl) ⟨_,rfl,rfl,yG⟩
end Go.Proofs.YtoldjgmcoekchaaGreatDoor
namespace Go.Proofs.YtoldjgmcoekchaaGreatDoor
open Go Go.RowKit Go.V
theorem put_c (b o c t x:Nat) (cs:List Value) (w:World) (hb:Blk w b t cs) (hl:o+8≤cs.length) :
  Calls Tryz.prog 331 #[.slice (some ⟨b,o,none⟩) 8 c,W1 x] w (Ret λ v w'=>v=.tuple #[]∧Upd b w w'∧Blk w' b t (putAt cs o (b8 x))):=by
 refine V.calls (args:=[_,_]) Tryz.func331 rfl Tryz.ntmps331 rfl rfl ?_
 have h7:=hb.cell (o:=o+7*1) (v:=cs[o+7]) (by simp)
 repeat (first|(refine TL.isMove ?_;refine TL.pure rfl rfl ?_)|refine TL.load1 rfl yM rfl ?_|(refine TL.isIndex ?_;refine TL.indexAt rfl rfl (by omega) rfl rfl ?_)|refine TL.nil ?_|refine thenQ_normal ?_|refine T.seq ?_|refine T.region ?_|refine TL.shrU rfl rfl rfl rfl rfl rfl ?_|refine TL.convW rfl rfl rfl ?_|(refine TL.storeS rfl rfl (by assumption) (by exact rfl) (by (try simp only [List.length_set]);omega) ?_;intro w' hu hbk hsz))
 refine retQ_normal (vs:=[]) rfl rfl ⟨_,rfl,rfl,?_,by assumption⟩
 repeat' (first|assumption|refine Upd.trans ?_ (by assumption))
def l0 (N:Nat):Nat:=N%2251799813685248
def l1 (N:Nat):Nat:=N / 2251799813685248%2251799813685248
def l2 (N:Nat):Nat:=N / 5070602400912917605986812821504%2251799813685248
def l3 (N:Nat):Nat:=N / 11417981541647679048466287755595961091061972992%2251799813685248
def l4 (N:Nat):Nat:=N / 25711008708143844408671393477458601640355247900524685364822016
abbrev wds (a b c d e:Nat):Value:=.agg #[W1 a,W1 b,W1 c,W1 d,W1 e]
theorem l0_eq (N:Nat):q0 N%2251799813685248=l0 N:=by unfold q0 l0;omega
theorem l1_eq (N:Nat):(q0 N / 2251799813685248+q1 N*8192%18446744073709551616)%2251799813685248=l1 N:=by unfold q0 q1 l1;omega
theorem l2_eq (N:Nat):(q1 N / 274877906944+q2 N*67108864%18446744073709551616)%2251799813685248=l2 N:=by unfold q1 q2 l2;omega
theorem l3_eq (N:Nat):(q2 N / 33554432+q3 N*549755813888%18446744073709551616)%2251799813685248=l3 N:=by unfold q2 q3 l3;omega
theorem l4_eq {N:Nat} (h:N<115792089237316195423570985008687907853269984665640564039457584007913129639936):q3 N / 4096=l4 N:=by unfold q3 l4;omega
theorem load_c (N:Nat) (hN:N<115792089237316195423570985008687907853269984665640564039457584007913129639936) (w:World) :
  Calls Tryz.prog 328 #[num N] w (Ret λ v w'=>v=wds (l0 N) (l1 N) (l2 N) (l3 N) (l4 N)∧Grow w w'):=by
 refine V.calls (args:=[_]) Tryz.func328 rfl Tryz.ntmps328 rfl rfl ?_
 have h0:=q0_lt N
 have h1:=q1_lt N
 have h2:=q2_lt N
 have h3:=q3_lt N
 repeat (first|(refine TL.isLoad ?_;refine TL.loadW rfl yB (by exact rfl) rfl ?_)|refine TL.nil ?_|refine thenQ_normal ?_|refine T.seq ?_|refine T.region ?_|(refine TL.isBox ?_;(refine TL.box rfl rfl rfl ?_;intro bk w' hg hbk hsz hsz'))|(refine TL.isAlloc ?_;(refine TL.alloc rfl rfl ?_;intro bk w' hg hbk hsz hsz')))
 refine TL.call rfl (quarters_c N _) rfl ?_
 rintro _ w2 ⟨rfl,hg2⟩
 repeat (first|refine TL.load1 rfl yM rfl ?_|(refine TL.isIndex ?_;refine TL.indexArr rfl rfl (by omega) rfl rfl ?_)|(refine TL.isAnd ?_;refine TL.andU rfl rfl rfl rfl (by omega) (by omega) rfl ?_)|refine TL.nil ?_|refine thenQ_normal ?_|refine T.seq ?_|refine T.region ?_|(refine TL.isOr ?_;refine TL.orMW rfl rfl rfl rfl rfl (by omega) rfl rfl ?_)|refine TL.shlW rfl rfl rfl rfl rfl rfl ?_|refine TL.shrU rfl rfl rfl rfl rfl rfl ?_|(refine TL.isStore ?_;(refine TL.storeWh rfl rfl yB (by exact rfl) (by exact rfl) (by exact rfl) ?_;intro w' hu hbk hsz))|(refine TL.isAlloc ?_;(refine TL.alloc rfl rfl ?_;intro bk w' hg hbk hsz hsz'))|refine TL.buildArr rfl rfl rfl ?_|refine T.ret ?_)
 exact retC rfl (load_whole (by assumption) rfl) ⟨_,rfl,by show wds _ _ _ _ _=_;rw [l0_eq,l1_eq,l2_eq,l3_eq,l4_eq hN],yG⟩
theorem carried_c (a b c d e:Nat) (ha:a<18446744073709551616) (hb:b<18446744073709551616) (hc:c<18446744073709551616) (hd:d<18446744073709551616) (he:e<18446744073709551616) (w:World) :
  Calls Tryz.prog 379 #[wds a b c d e] w (Ret λ v w'=>v=wds (a%2251799813685248+19*(e / 2251799813685248)) (b%2251799813685248+a / 2251799813685248) (c%2251799813685248+b / 2251799813685248) (d%2251799813685248+c / 2251799813685248) (e%2251799813685248+d / 2251799813685248)∧Grow w w'):=by
 refine V.calls (args:=[_]) Tryz.func379 rfl Tryz.ntmps379 rfl rfl ?_
 repeat (first|refine TL.load1 rfl yM rfl ?_|(refine TL.isIndex ?_;refine TL.indexArr rfl rfl (by omega) rfl rfl ?_)|(refine TL.isAdd ?_;refine TL.addU rfl rfl rfl (by omega) rfl ?_)|(refine TL.isMul ?_;refine TL.mulU rfl rfl rfl (by omega) rfl ?_)|(refine TL.isAnd ?_;refine TL.andU rfl rfl rfl rfl (by omega) (by omega) rfl ?_)|refine TL.nil ?_|refine thenQ_normal ?_|refine T.seq ?_|refine T.region ?_|refine TL.shrU rfl rfl rfl rfl rfl rfl ?_|(refine TL.isStore ?_;(refine TL.storeWh rfl rfl yB (by exact rfl) (by exact rfl) (by exact rfl) ?_;intro w' hu hbk hsz))|(refine TL.isBox ?_;(refine TL.box rfl rfl rfl ?_;intro bk w' hg hbk hsz hsz'))|(refine TL.isAlloc ?_;(refine TL.alloc rfl rfl ?_;intro bk w' hg hbk hsz hsz'))|refine TL.buildArr rfl rfl rfl ?_|refine T.ret ?_)
 exact retC rfl (load_whole (by assumption) rfl) ⟨_,rfl,rfl,yG⟩
end Go.Proofs.YtoldjgmcoekchaaGreatDoor
namespace Go.Proofs.YtoldjgmcoekchaaGreatDoor
open Go Go.RowKit Go.V
def p25519:Nat:=57896044618658097711785492504343953926634992332820282019728792003956564819949
def V5 (a b c d e:Nat):Nat:=a+2251799813685248*b+5070602400912917605986812821504*c+11417981541647679048466287755595961091061972992*d+25711008708143844408671393477458601640355247900524685364822016*e
def c1 (a:Nat):Nat:=(a+19) / 2251799813685248
def c2 (a b:Nat):Nat:=(b+c1 a) / 2251799813685248
def c3 (a b c:Nat):Nat:=(c+c2 a b) / 2251799813685248
def c4 (a b c d:Nat):Nat:=(d+c3 a b c) / 2251799813685248
def c5 (a b c d e:Nat):Nat:=(e+c4 a b c d) / 2251799813685248
def ck (a b c d e:Nat):Nat→Nat
 | 1=>c1 a
 | 2=>c2 a b
 | 3=>c3 a b c
 | 4=>c4 a b c d
 | _=>c5 a b c d e
def sw (a b c d e:Nat):Nat→List Value
 | 0=>[W1 a,W1 b,W1 c,W1 d,W1 e]
 | 1=>[W1 (a%2251799813685248),W1 (b+a / 2251799813685248),W1 c,W1 d,W1 e]
 | 2=>[W1 (a%2251799813685248),W1 ((b+a / 2251799813685248)%2251799813685248),W1 (c+(b+a / 2251799813685248) / 2251799813685248),W1 d,W1 e]
 | 3=>[W1 (a%2251799813685248),W1 ((b+a / 2251799813685248)%2251799813685248),W1 ((c+(b+a / 2251799813685248) / 2251799813685248)%2251799813685248),W1 (d+(c+(b+a / 2251799813685248) / 2251799813685248) / 2251799813685248),W1 e]
 | _=>[W1 (a%2251799813685248),W1 ((b+a / 2251799813685248)%2251799813685248),W1 ((c+(b+a / 2251799813685248) / 2251799813685248)%2251799813685248),W1 ((d+(c+(b+a / 2251799813685248) / 2251799813685248) / 2251799813685248)%2251799813685248),W1 (e+(d+(c+(b+a / 2251799813685248) / 2251799813685248) / 2251799813685248) / 2251799813685248)]
theorem carry_last (V c M o:Nat) (hV:V<86844066927987146567678238756515930889952488499230423029593188005934847229952) (hc:c=(V+19) / 57896044618658097711785492504343953926634992332820282019728792003956564819968)
  (hM:M+57896044618658097711785492504343953926634992332820282019728792003956564819968*o=V+19*c) (hM2:M<57896044618658097711785492504343953926634992332820282019728792003956564819968):V%p25519=M:=by
 unfold p25519
 have h:c=0∨c=1:=by omega
 rcases h with rfl|rfl
 ·have:o=0:=by omega
  subst this
  omega
 ·have:o=1:=by omega
  subst this
  omega
theorem carry_all (A B C D E c:Nat) (h0:A<2251799813840896) (h1:B<2251799813693440) (h2:C<2251799813693440) (h3:D<2251799813693440) (h4:E<2251799813693440) (k5:c≤1)
  (hc:c=(V5 A B C D E+19) / 57896044618658097711785492504343953926634992332820282019728792003956564819968) :
  V5 A B C D E%p25519=V5 ((A+19*c)%2251799813685248) ((B+(A+19*c) / 2251799813685248)%2251799813685248) ((C+(B+(A+19*c) / 2251799813685248) / 2251799813685248)%2251799813685248) ((D+(C+(B+(A+19*c) / 2251799813685248) / 2251799813685248) / 2251799813685248)%2251799813685248) ((E+(D+(C+(B+(A+19*c) / 2251799813685248) / 2251799813685248) / 2251799813685248) / 2251799813685248)%2251799813685248):=by
 refine carry_last _ c _ ((E+(D+(C+(B+(A+19*c) / 2251799813685248) / 2251799813685248) / 2251799813685248) / 2251799813685248) / 2251799813685248) ?_ hc ?_ ?_
 ·unfold V5;omega
 ·clear hc;unfold V5;omega
 ·clear hc;unfold V5;omega
def zs:Nat→List Value
 | 0=>[]
 | k+1=>B1 0::zs k
def zeros:List Value:=[B1 0,B1 0,B1 0,B1 0,B1 0,B1 0,B1 0,B1 0,B1 0,B1 0,B1 0,B1 0,B1 0,B1 0,B1 0,B1 0,B1 0,B1 0,B1 0,B1 0,B1 0,B1 0,B1 0,B1 0,B1 0,B1 0,B1 0,B1 0,B1 0,B1 0,B1 0,B1 0]
theorem store_c (a b c d e:Nat) (ha:a<18446744073709551616) (hb:b<18446744073709551616) (hc:c<18446744073709551616) (hd:d<18446744073709551616) (he:e<18446744073709551616) (w:World) :
  Calls Tryz.prog 330 #[wds a b c d e] w (Ret λ v w'=>v=num (V5 a b c d e%p25519)∧Grow w w'):=by
 refine V.calls (args:=[_]) Tryz.func330 rfl Tryz.ntmps330 rfl rfl ?_
 repeat (first|(refine TL.isLoad ?_;refine TL.loadW rfl yB (by exact rfl) rfl ?_)|refine TL.nil ?_|refine thenQ_normal ?_|refine T.seq ?_|refine T.region ?_|(refine TL.isBox ?_;(refine TL.box rfl rfl rfl ?_;intro bk w' hg hbk hsz hsz'))|(refine TL.isAlloc ?_;(refine TL.alloc rfl rfl ?_;intro bk w' hg hbk hsz hsz')))
 refine TL.call rfl (carried_c a b c d e ha hb hc hd he _) rfl ?_
 rintro _ w5 ⟨rfl,hg5⟩
 have hV:V5 (a%2251799813685248+19*(e / 2251799813685248)) (b%2251799813685248+a / 2251799813685248) (c%2251799813685248+b / 2251799813685248) (d%2251799813685248+c / 2251799813685248) (e%2251799813685248+d / 2251799813685248)+p25519*(e / 2251799813685248)=V5 a b c d e:=by unfold V5 p25519;omega
 have h0:a%2251799813685248+19*(e / 2251799813685248)<2251799813840896:=by omega
 have h1:b%2251799813685248+a / 2251799813685248<2251799813693440:=by omega
 have h2:c%2251799813685248+b / 2251799813685248<2251799813693440:=by omega
 have h3:d%2251799813685248+c / 2251799813685248<2251799813693440:=by omega
 have h4:e%2251799813685248+d / 2251799813685248<2251799813693440:=by omega
 have hV2:V5 a b c d e%p25519=V5 (a%2251799813685248+19*(e / 2251799813685248)) (b%2251799813685248+a / 2251799813685248) (c%2251799813685248+b / 2251799813685248) (d%2251799813685248+c / 2251799813685248) (e%2251799813685248+d / 2251799813685248)%p25519:=by rw [← hV,Nat.add_mul_mod_self_left]
 rw [hV2]
 clear hV hV2
 generalize a%2251799813685248+19*(e / 2251799813685248)=A at *
 generalize b%2251799813685248+a / 2251799813685248=B at *
 generalize c%2251799813685248+b / 2251799813685248=C at *
 generalize d%2251799813685248+c / 2251799813685248=D at *
 generalize e%2251799813685248+d / 2251799813685248=E at *
 clear ha hb hc hd he
 have k1:c1 A≤1:=by unfold c1;omega
 have k2:c2 A B≤1:=by unfold c2;omega
 have k3:c3 A B C≤1:=by unfold c3;omega
 have k4:c4 A B C D≤1:=by unfold c4;omega
 have k5:c5 A B C D E≤1:=by unfold c5;omega
 have hc5:c5 A B C D E=(V5 A B C D E+19) / 57896044618658097711785492504343953926634992332820282019728792003956564819968:=by unfold c5 c4 c3 c2 c1 V5;omega
 rename_i b1 w1 g1 m1 s1 t1
 repeat (first|(refine TL.isAsg ?_;refine TL.pure rfl rfl ?_)|refine TL.load1 rfl yM rfl ?_|(refine TL.isIndex ?_;refine TL.indexArr rfl rfl (by omega) rfl rfl ?_)|(refine TL.isAdd ?_;refine TL.addU rfl rfl rfl (by omega) rfl ?_)|refine TL.nil ?_|refine thenQ_normal ?_|refine T.seq ?_|refine T.region ?_|refine T.block ?_|refine TL.shrU rfl rfl rfl rfl rfl rfl ?_|(refine TL.isStore ?_;(refine TL.storeWh rfl rfl yB (by exact rfl) (by exact rfl) (by exact rfl) ?_;intro w' hu hbk hsz)))
 rename_i w2 m2 s2
 clear m1
 refine T.loop (S:=Nat) (λ k=>[(4,.int .i64 (k:Int)),(3,W1 (ck A B C D E k)),(2,.pointer (some ⟨bk,0,none⟩)),(1,.pointer (some ⟨b1,0,none⟩))]) (λ k w6=>1≤k∧k≤5∧w'=w6) (λ k=>5-k) 1 ⟨rfl,rfl,rfl,rfl,trivial⟩ ⟨by omega,by omega,rfl⟩ ?_
 rintro k _ ⟨hk1,hk,rfl⟩
 obtain rfl|rfl|rfl|rfl|rfl:k=1∨k=2∨k=3∨k=4∨k=5:=by omega
 ·refine T.weaken (e':=[(4,.int .i64 1),(3,W1 (c1 A)),(2,_),(1,_)]) ?_ ⟨rfl,rfl,rfl,rfl,trivial⟩
  repeat (first|(refine TL.isMove ?_;refine TL.pure rfl rfl ?_)|(refine TL.isAsg ?_;refine TL.pure rfl rfl ?_)|refine TL.load1 rfl yM rfl ?_|(refine TL.isIndex ?_;refine TL.indexArr rfl rfl (by omega) rfl rfl ?_)|(refine TL.isAdd ?_;first|refine TL.addI rfl rfl (by omega) (by omega) rfl ?_|refine TL.addU rfl rfl rfl (by omega) rfl ?_)|refine TL.nil ?_|refine thenQ_normal ?_|refine T.seq ?_|refine T.region ?_|refine T.block ?_|refine blockQ_normal ?_|refine TL.shrU rfl rfl rfl rfl rfl rfl ?_|(refine TL.isBin ?_;refine TL.pure rfl rfl ?_)|refine T.cond_true rfl ?_|refine T.skip ?_)
  exact loopQ_normal 2 ⟨rfl,rfl,rfl,rfl,trivial⟩ ⟨by omega,by omega,rfl⟩ (by omega)
 ·refine T.weaken (e':=[(4,.int .i64 2),(3,W1 (c2 A B)),(2,_),(1,_)]) ?_ ⟨rfl,rfl,rfl,rfl,trivial⟩
  repeat (first|(refine TL.isMove ?_;refine TL.pure rfl rfl ?_)|(refine TL.isAsg ?_;refine TL.pure rfl rfl ?_)|refine TL.load1 rfl yM rfl ?_|(refine TL.isIndex ?_;refine TL.indexArr rfl rfl (by omega) rfl rfl ?_)|(refine TL.isAdd ?_;first|refine TL.addI rfl rfl (by omega) (by omega) rfl ?_|refine TL.addU rfl rfl rfl (by omega) rfl ?_)|refine TL.nil ?_|refine thenQ_normal ?_|refine T.seq ?_|refine T.region ?_|refine T.block ?_|refine blockQ_normal ?_|refine TL.shrU rfl rfl rfl rfl rfl rfl ?_|(refine TL.isBin ?_;refine TL.pure rfl rfl ?_)|refine T.cond_true rfl ?_|refine T.skip ?_)
  exact loopQ_normal 3 ⟨rfl,rfl,rfl,rfl,trivial⟩ ⟨by omega,by omega,rfl⟩ (by omega)
 ·refine T.weaken (e':=[(4,.int .i64 3),(3,W1 (c3 A B C)),(2,_),(1,_)]) ?_ ⟨rfl,rfl,rfl,rfl,trivial⟩
  repeat (first|(refine TL.isMove ?_;refine TL.pure rfl rfl ?_)|(refine TL.isAsg ?_;refine TL.pure rfl rfl ?_)|refine TL.load1 rfl yM rfl ?_|(refine TL.isIndex ?_;refine TL.indexArr rfl rfl (by omega) rfl rfl ?_)|(refine TL.isAdd ?_;first|refine TL.addI rfl rfl (by omega) (by omega) rfl ?_|refine TL.addU rfl rfl rfl (by omega) rfl ?_)|refine TL.nil ?_|refine thenQ_normal ?_|refine T.seq ?_|refine T.region ?_|refine T.block ?_|refine blockQ_normal ?_|refine TL.shrU rfl rfl rfl rfl rfl rfl ?_|(refine TL.isBin ?_;refine TL.pure rfl rfl ?_)|refine T.cond_true rfl ?_|refine T.skip ?_)
  exact loopQ_normal 4 ⟨rfl,rfl,rfl,rfl,trivial⟩ ⟨by omega,by omega,rfl⟩ (by omega)
 ·refine T.weaken (e':=[(4,.int .i64 4),(3,W1 (c4 A B C D)),(2,_),(1,_)]) ?_ ⟨rfl,rfl,rfl,rfl,trivial⟩
  repeat (first|(refine TL.isMove ?_;refine TL.pure rfl rfl ?_)|(refine TL.isAsg ?_;refine TL.pure rfl rfl ?_)|refine TL.load1 rfl yM rfl ?_|(refine TL.isIndex ?_;refine TL.indexArr rfl rfl (by omega) rfl rfl ?_)|(refine TL.isAdd ?_;first|refine TL.addI rfl rfl (by omega) (by omega) rfl ?_|refine TL.addU rfl rfl rfl (by omega) rfl ?_)|refine TL.nil ?_|refine thenQ_normal ?_|refine T.seq ?_|refine T.region ?_|refine T.block ?_|refine blockQ_normal ?_|refine TL.shrU rfl rfl rfl rfl rfl rfl ?_|(refine TL.isBin ?_;refine TL.pure rfl rfl ?_)|refine T.cond_true rfl ?_|refine T.skip ?_)
  exact loopQ_normal 5 ⟨rfl,rfl,rfl,rfl,trivial⟩ ⟨by omega,by omega,rfl⟩ (by omega)
 ·refine T.weaken (e':=[(4,.int .i64 5),(3,W1 (c5 A B C D E)),(2,_),(1,_)]) ?_ ⟨rfl,rfl,rfl,rfl,trivial⟩
  clear k1 k2 k3 k4
  generalize c5 A B C D E=c0 at *
  repeat (first|(refine TL.isMove ?_;refine TL.pure rfl rfl ?_)|refine TL.load1 rfl yM rfl ?_|(refine TL.isIndex ?_;refine TL.indexArr rfl rfl (by omega) rfl rfl ?_)|(refine TL.isAdd ?_;refine TL.addU rfl rfl rfl (by omega) rfl ?_)|(refine TL.isMul ?_;refine TL.mulU rfl rfl rfl (by omega) rfl ?_)|refine TL.nil ?_|refine thenQ_normal ?_|refine T.seq ?_|refine T.region ?_|refine T.block ?_|(refine TL.isBin ?_;refine TL.pure rfl rfl ?_)|(refine TL.isStore ?_;(refine TL.store1 rfl rfl yB (by exact rfl) (by exact rfl) (by exact rfl) ?_;intro w' hu hbk hsz))|refine T.cond_false rfl ?_|refine T.exit ?_|refine thenQ_exit ?_|refine blockQ_hit ?_|refine loopQ_exit ?_)
  rename_i w7 u7 m7 s7
  have hM:=carry_all A B C D E c0 h0 h1 h2 h3 h4 k5 hc5
  have h0':A+19*c0<2251799813840926:=by omega
  clear k5 hc5 h0
  generalize hA':A+19*c0=A' at *
  have hbk0:Blk w' b1 406 (sw A' B C D E 0):=hbk
  clear hbk
  refine T.loop (S:=Nat) (λ k=>[(29,.int .i64 (k:Int)),(2,.pointer (some ⟨bk,0,none⟩)),(1,.pointer (some ⟨b1,0,none⟩))]) (λ k w6=>k≤4∧Blk w6 b1 406 (sw A' B C D E k)∧Blk w6 bk 269 zeros∧Grow w w6) (λ k=>4-k) 0 ⟨rfl,rfl,rfl,trivial⟩ ⟨by omega,hbk0,yB,yG⟩ ?_
  rintro k w6 ⟨hk,m3,m4,g6⟩
  clear hbk0 m7 m2
  obtain rfl|rfl|rfl|rfl|rfl:k=0∨k=1∨k=2∨k=3∨k=4:=by omega
  ·refine T.weaken (e':=[(29,.int .i64 0),(2,_),(1,_)]) ?_ ⟨rfl,rfl,rfl,trivial⟩
   repeat (first|(refine TL.isMove ?_;refine TL.pure rfl rfl ?_)|(refine TL.isAsg ?_;refine TL.pure rfl rfl ?_)|refine TL.nil ?_|refine thenQ_normal ?_|refine T.seq ?_|refine T.region ?_|refine T.block ?_|(refine TL.isBin ?_;refine TL.pure rfl rfl ?_)|refine T.cond_true rfl ?_|refine T.skip ?_)
   apply T.any 9 [is _,is _,is _,is _,is _,is _,is _,is _,is _];(· kernel_rfl);(· ((repeat' (first|exact allDo_end|refine allDo_cons ?_ ?_));(iterate 9 (· ((refine does_mk0 rfl rfl rfl ?_);( intro wq _ _ hgq;(repeat (refine need_cons rfl rfl ?_;intro vq hvq;try (obtain rfl:=hvq)));(refine need_nil ?_));(repeat (first|(refine TL.isMove ?_;refine TL.pure rfl rfl ?_)|refine TL.load1 rfl yM rfl ?_|(refine TL.isIndex ?_;refine TL.indexArr rfl rfl (by omega) rfl rfl ?_)|(refine TL.isAdd ?_;first|refine TL.addI rfl rfl (by omega) (by omega) rfl ?_|refine TL.addU rfl rfl rfl (by omega) rfl ?_)|refine TL.nil ?_|refine TL.shrU rfl rfl rfl rfl rfl rfl ?_));exact one_end rfl yG rfl)))));(rintro _ _ _ hgr _ _;(repeat (refine need_cons rfl rfl ?_;intro vq hvq;try (obtain rfl:=hvq)));(refine need_nil ?_))
   repeat (first|(refine TL.isMove ?_;refine TL.pure rfl rfl ?_)|refine TL.load1 rfl yM rfl ?_|(refine TL.isIndex ?_;refine TL.indexArr rfl rfl (by omega) rfl rfl ?_)|(refine TL.isAdd ?_;refine TL.addI rfl rfl (by omega) (by omega) rfl ?_)|(refine TL.isAnd ?_;refine TL.andU rfl rfl rfl rfl (by omega) (by omega) rfl ?_)|refine TL.nil ?_|refine thenQ_normal ?_|refine T.region ?_|refine blockQ_normal ?_|(refine TL.isStore ?_;(refine TL.store1 rfl rfl yB (by exact rfl) (by exact rfl) (by exact rfl) ?_;intro w' hu hbk hsz)))
   exact loopQ_normal 1 ⟨rfl,rfl,rfl,trivial⟩ ⟨by omega,by assumption,yB,yG⟩ (by omega)
  ·refine T.weaken (e':=[(29,.int .i64 1),(2,_),(1,_)]) ?_ ⟨rfl,rfl,rfl,trivial⟩
   repeat (first|(refine TL.isMove ?_;refine TL.pure rfl rfl ?_)|(refine TL.isAsg ?_;refine TL.pure rfl rfl ?_)|refine TL.nil ?_|refine thenQ_normal ?_|refine T.seq ?_|refine T.region ?_|refine T.block ?_|(refine TL.isBin ?_;refine TL.pure rfl rfl ?_)|refine T.cond_true rfl ?_|refine T.skip ?_)
   apply T.any 9 [is _,is _,is _,is _,is _,is _,is _,is _,is _];(· kernel_rfl);(· ((repeat' (first|exact allDo_end|refine allDo_cons ?_ ?_));(iterate 9 (· ((refine does_mk0 rfl rfl rfl ?_);( intro wq _ _ hgq;(repeat (refine need_cons rfl rfl ?_;intro vq hvq;try (obtain rfl:=hvq)));(refine need_nil ?_));(repeat (first|(refine TL.isMove ?_;refine TL.pure rfl rfl ?_)|refine TL.load1 rfl yM rfl ?_|(refine TL.isIndex ?_;refine TL.indexArr rfl rfl (by omega) rfl rfl ?_)|(refine TL.isAdd ?_;first|refine TL.addI rfl rfl (by omega) (by omega) rfl ?_|refine TL.addU rfl rfl rfl (by omega) rfl ?_)|refine TL.nil ?_|refine TL.shrU rfl rfl rfl rfl rfl rfl ?_));exact one_end rfl yG rfl)))));(rintro _ _ _ hgr _ _;(repeat (refine need_cons rfl rfl ?_;intro vq hvq;try (obtain rfl:=hvq)));(refine need_nil ?_))
   repeat (first|(refine TL.isMove ?_;refine TL.pure rfl rfl ?_)|refine TL.load1 rfl yM rfl ?_|(refine TL.isIndex ?_;refine TL.indexArr rfl rfl (by omega) rfl rfl ?_)|(refine TL.isAdd ?_;refine TL.addI rfl rfl (by omega) (by omega) rfl ?_)|(refine TL.isAnd ?_;refine TL.andU rfl rfl rfl rfl (by omega) (by omega) rfl ?_)|refine TL.nil ?_|refine thenQ_normal ?_|refine T.region ?_|refine blockQ_normal ?_|(refine TL.isStore ?_;(refine TL.store1 rfl rfl yB (by exact rfl) (by exact rfl) (by exact rfl) ?_;intro w' hu hbk hsz)))
   exact loopQ_normal 2 ⟨rfl,rfl,rfl,trivial⟩ ⟨by omega,by assumption,yB,yG⟩ (by omega)
  ·refine T.weaken (e':=[(29,.int .i64 2),(2,_),(1,_)]) ?_ ⟨rfl,rfl,rfl,trivial⟩
   repeat (first|(refine TL.isMove ?_;refine TL.pure rfl rfl ?_)|(refine TL.isAsg ?_;refine TL.pure rfl rfl ?_)|refine TL.nil ?_|refine thenQ_normal ?_|refine T.seq ?_|refine T.region ?_|refine T.block ?_|(refine TL.isBin ?_;refine TL.pure rfl rfl ?_)|refine T.cond_true rfl ?_|refine T.skip ?_)
   apply T.any 9 [is _,is _,is _,is _,is _,is _,is _,is _,is _];(· kernel_rfl);(· ((repeat' (first|exact allDo_end|refine allDo_cons ?_ ?_));(iterate 9 (· ((refine does_mk0 rfl rfl rfl ?_);( intro wq _ _ hgq;(repeat (refine need_cons rfl rfl ?_;intro vq hvq;try (obtain rfl:=hvq)));(refine need_nil ?_));(repeat (first|(refine TL.isMove ?_;refine TL.pure rfl rfl ?_)|refine TL.load1 rfl yM rfl ?_|(refine TL.isIndex ?_;refine TL.indexArr rfl rfl (by omega) rfl rfl ?_)|(refine TL.isAdd ?_;first|refine TL.addI rfl rfl (by omega) (by omega) rfl ?_|refine TL.addU rfl rfl rfl (by omega) rfl ?_)|refine TL.nil ?_|refine TL.shrU rfl rfl rfl rfl rfl rfl ?_));exact one_end rfl yG rfl)))));(rintro _ _ _ hgr _ _;(repeat (refine need_cons rfl rfl ?_;intro vq hvq;try (obtain rfl:=hvq)));(refine need_nil ?_))
   repeat (first|(refine TL.isMove ?_;refine TL.pure rfl rfl ?_)|refine TL.load1 rfl yM rfl ?_|(refine TL.isIndex ?_;refine TL.indexArr rfl rfl (by omega) rfl rfl ?_)|(refine TL.isAdd ?_;refine TL.addI rfl rfl (by omega) (by omega) rfl ?_)|(refine TL.isAnd ?_;refine TL.andU rfl rfl rfl rfl (by omega) (by omega) rfl ?_)|refine TL.nil ?_|refine thenQ_normal ?_|refine T.region ?_|refine blockQ_normal ?_|(refine TL.isStore ?_;(refine TL.store1 rfl rfl yB (by exact rfl) (by exact rfl) (by exact rfl) ?_;intro w' hu hbk hsz)))
   exact loopQ_normal 3 ⟨rfl,rfl,rfl,trivial⟩ ⟨by omega,by assumption,yB,yG⟩ (by omega)
  ·refine T.weaken (e':=[(29,.int .i64 3),(2,_),(1,_)]) ?_ ⟨rfl,rfl,rfl,trivial⟩
   repeat (first|(refine TL.isMove ?_;refine TL.pure rfl rfl ?_)|(refine TL.isAsg ?_;refine TL.pure rfl rfl ?_)|refine TL.nil ?_|refine thenQ_normal ?_|refine T.seq ?_|refine T.region ?_|refine T.block ?_|(refine TL.isBin ?_;refine TL.pure rfl rfl ?_)|refine T.cond_true rfl ?_|refine T.skip ?_)
   apply T.any 9 [is _,is _,is _,is _,is _,is _,is _,is _,is _];(· kernel_rfl);(· ((repeat' (first|exact allDo_end|refine allDo_cons ?_ ?_));(iterate 9 (· ((refine does_mk0 rfl rfl rfl ?_);( intro wq _ _ hgq;(repeat (refine need_cons rfl rfl ?_;intro vq hvq;try (obtain rfl:=hvq)));(refine need_nil ?_));(repeat (first|(refine TL.isMove ?_;refine TL.pure rfl rfl ?_)|refine TL.load1 rfl yM rfl ?_|(refine TL.isIndex ?_;refine TL.indexArr rfl rfl (by omega) rfl rfl ?_)|(refine TL.isAdd ?_;first|refine TL.addI rfl rfl (by omega) (by omega) rfl ?_|refine TL.addU rfl rfl rfl (by omega) rfl ?_)|refine TL.nil ?_|refine TL.shrU rfl rfl rfl rfl rfl rfl ?_));exact one_end rfl yG rfl)))));(rintro _ _ _ hgr _ _;(repeat (refine need_cons rfl rfl ?_;intro vq hvq;try (obtain rfl:=hvq)));(refine need_nil ?_))
   repeat (first|(refine TL.isMove ?_;refine TL.pure rfl rfl ?_)|refine TL.load1 rfl yM rfl ?_|(refine TL.isIndex ?_;refine TL.indexArr rfl rfl (by omega) rfl rfl ?_)|(refine TL.isAdd ?_;refine TL.addI rfl rfl (by omega) (by omega) rfl ?_)|(refine TL.isAnd ?_;refine TL.andU rfl rfl rfl rfl (by omega) (by omega) rfl ?_)|refine TL.nil ?_|refine thenQ_normal ?_|refine T.region ?_|refine blockQ_normal ?_|(refine TL.isStore ?_;(refine TL.store1 rfl rfl yB (by exact rfl) (by exact rfl) (by exact rfl) ?_;intro w' hu hbk hsz)))
   exact loopQ_normal 4 ⟨rfl,rfl,rfl,trivial⟩ ⟨by omega,by assumption,yB,yG⟩ (by omega)
  ·refine T.weaken (e':=[(29,.int .i64 4),(2,_),(1,_)]) ?_ ⟨rfl,rfl,rfl,trivial⟩
   repeat (first|refine TL.load1 rfl yM rfl ?_|(refine TL.isIndex ?_;refine TL.indexArr rfl rfl (by omega) rfl rfl ?_)|(refine TL.isAnd ?_;refine TL.andU rfl rfl rfl rfl (by omega) (by omega) rfl ?_)|refine TL.nil ?_|refine thenQ_normal ?_|refine T.seq ?_|refine T.region ?_|(refine TL.isBin ?_;refine TL.pure rfl rfl ?_)|(refine TL.isStore ?_;(refine TL.store1 rfl rfl yB (by exact rfl) (by exact rfl) (by exact rfl) ?_;intro w' hu hbk hsz))|(refine TL.isAlloc ?_;(refine TL.alloc rfl rfl ?_;intro bk w' hg hbk hsz hsz'))|refine T.cond_false rfl ?_|refine T.exit ?_|refine thenQ_exit ?_|refine blockQ_hit ?_|refine loopQ_exit ?_)
   rename_i w8 m8 s8
   have n8:Blk w8 b1 406 [W1 (A'%2251799813685248),W1 ((B+A' / 2251799813685248)%2251799813685248),W1 ((C+(B+A' / 2251799813685248) / 2251799813685248)%2251799813685248),W1 ((D+(C+(B+A' / 2251799813685248) / 2251799813685248) / 2251799813685248)%2251799813685248),W1 ((E+(D+(C+(B+A' / 2251799813685248) / 2251799813685248) / 2251799813685248) / 2251799813685248)%2251799813685248)]:=m8
   have n9:=n8.lt
   have m9:=m4.lt
   clear m8 m3 h0' h1 h2 h3 h4
   have e0:A'%2251799813685248<2251799813685248:=Nat.mod_lt _ (by decide)
   have e1:(B+A' / 2251799813685248)%2251799813685248<2251799813685248:=Nat.mod_lt _ (by decide)
   have e2:(C+(B+A' / 2251799813685248) / 2251799813685248)%2251799813685248<2251799813685248:=Nat.mod_lt _ (by decide)
   have e3:(D+(C+(B+A' / 2251799813685248) / 2251799813685248) / 2251799813685248)%2251799813685248<2251799813685248:=Nat.mod_lt _ (by decide)
   have e4:(E+(D+(C+(B+A' / 2251799813685248) / 2251799813685248) / 2251799813685248) / 2251799813685248)%2251799813685248<2251799813685248:=Nat.mod_lt _ (by decide)
   generalize (E+(D+(C+(B+A' / 2251799813685248) / 2251799813685248) / 2251799813685248) / 2251799813685248)%2251799813685248=x4 at *
   generalize (D+(C+(B+A' / 2251799813685248) / 2251799813685248) / 2251799813685248)%2251799813685248=x3 at *
   generalize (C+(B+A' / 2251799813685248) / 2251799813685248)%2251799813685248=x2 at *
   generalize (B+A' / 2251799813685248)%2251799813685248=x1 at *
   generalize A'%2251799813685248=x0 at *
   rw [hM]
   have r0:x0+x1*2251799813685248%18446744073709551616=q0 (V5 x0 x1 x2 x3 x4):=by clear hM;unfold q0 V5;omega
   have r1:x1 / 8192+x2*274877906944%18446744073709551616=q1 (V5 x0 x1 x2 x3 x4):=by clear hM;unfold q1 V5;omega
   have r2:x2 / 67108864+x3*33554432%18446744073709551616=q2 (V5 x0 x1 x2 x3 x4):=by clear hM;unfold q2 V5;omega
   have r3:x3 / 549755813888+x4*4096=q3 (V5 x0 x1 x2 x3 x4):=by clear hM;unfold q3 V5;omega
   generalize V5 x0 x1 x2 x3 x4=M at *
   apply T.any 7 [is _,is _,is _,is _,is _,is _,is _];(· kernel_rfl);(· ((repeat' (first|exact allDo_end|refine allDo_cons ?_ ?_));(iterate 7 (· ((refine does_mk0 rfl rfl rfl ?_);( intro wq _ _ hgq;(repeat (refine need_cons rfl rfl ?_;intro vq hvq;try (obtain rfl:=hvq)));(refine need_nil ?_));(repeat (first|refine TL.load1 rfl yM rfl ?_|(refine TL.isIndex ?_;refine TL.indexArr rfl rfl (by omega) rfl rfl ?_)|refine TL.nil ?_|(refine TL.isOr ?_;refine TL.orMW rfl rfl rfl rfl rfl (by omega) rfl rfl ?_)|refine TL.shlW rfl rfl rfl rfl rfl rfl ?_|(refine TL.isSlice ?_;refine TL.sliceArr rfl (bnd_lit rfl) (bnd_lit rfl) (by omega) (by omega) (by omega) rfl rfl ?_)));exact one_end rfl yG rfl)))));(rintro _ _ _ hgr _ _;(repeat (refine need_cons rfl rfl ?_;intro vq hvq;try (obtain rfl:=hvq)));(refine need_nil ?_))
   rw [r0]
   refine TL.call rfl (put_c _ _ _ _ _ _ _ yB (by exact Nat.le_of_ble_eq_true rfl)) rfl ?_
   rintro _ v0 ⟨rfl,hu0,hb0⟩
   have hc0:Blk v0 bk 269 (b8 (q0 M)++zs 24):=hb0
   clear hb0 hbk
   repeat (first|refine TL.nil ?_|refine thenQ_normal ?_|refine T.seq ?_)
   apply T.any 8 [is _,is _,is _,is _,is _,is _,is _,is _];(· kernel_rfl);(· ((repeat' (first|exact allDo_end|refine allDo_cons ?_ ?_));(iterate 8 (· ((refine does_mk0 rfl rfl rfl ?_);( intro wq _ _ hgq;(repeat (refine need_cons rfl rfl ?_;intro vq hvq;try (obtain rfl:=hvq)));(refine need_nil ?_));(repeat (first|refine TL.load1 rfl yM rfl ?_|(refine TL.isIndex ?_;refine TL.indexArr rfl rfl (by omega) rfl rfl ?_)|refine TL.nil ?_|(refine TL.isOr ?_;refine TL.orMW rfl rfl rfl rfl rfl (by omega) rfl rfl ?_)|refine TL.shlW rfl rfl rfl rfl rfl rfl ?_|refine TL.shrU rfl rfl rfl rfl rfl rfl ?_|(refine TL.isSlice ?_;refine TL.sliceArr rfl (bnd_lit rfl) (bnd_lit rfl) (by omega) (by omega) (by omega) rfl rfl ?_)));exact one_end rfl yG rfl)))));(rintro _ _ _ hgr _ _;(repeat (refine need_cons rfl rfl ?_;intro vq hvq;try (obtain rfl:=hvq)));(refine need_nil ?_))
   rw [r1]
   refine TL.call rfl (put_c _ _ _ _ _ _ _ yB (by exact Nat.le_of_ble_eq_true rfl)) rfl ?_
   rintro _ v1 ⟨rfl,hu1,hb1⟩
   have hc1:Blk v1 bk 269 (b8 (q0 M)++(b8 (q1 M)++zs 16)):=hb1
   clear hb1 hc0
   repeat (first|refine TL.nil ?_|refine thenQ_normal ?_|refine T.seq ?_)
   apply T.any 8 [is _,is _,is _,is _,is _,is _,is _,is _];(· kernel_rfl);(· ((repeat' (first|exact allDo_end|refine allDo_cons ?_ ?_));(iterate 8 (· ((refine does_mk0 rfl rfl rfl ?_);( intro wq _ _ hgq;(repeat (refine need_cons rfl rfl ?_;intro vq hvq;try (obtain rfl:=hvq)));(refine need_nil ?_));(repeat (first|refine TL.load1 rfl yM rfl ?_|(refine TL.isIndex ?_;refine TL.indexArr rfl rfl (by omega) rfl rfl ?_)|refine TL.nil ?_|(refine TL.isOr ?_;refine TL.orMW rfl rfl rfl rfl rfl (by omega) rfl rfl ?_)|refine TL.shlW rfl rfl rfl rfl rfl rfl ?_|refine TL.shrU rfl rfl rfl rfl rfl rfl ?_|(refine TL.isSlice ?_;refine TL.sliceArr rfl (bnd_lit rfl) (bnd_lit rfl) (by omega) (by omega) (by omega) rfl rfl ?_)));exact one_end rfl yG rfl)))));(rintro _ _ _ hgr _ _;(repeat (refine need_cons rfl rfl ?_;intro vq hvq;try (obtain rfl:=hvq)));(refine need_nil ?_))
   rw [r2]
   refine TL.call rfl (put_c _ _ _ _ _ _ _ yB (by exact Nat.le_of_ble_eq_true rfl)) rfl ?_
   rintro _ v2 ⟨rfl,hu2,hb2⟩
   have hc2:Blk v2 bk 269 (b8 (q0 M)++(b8 (q1 M)++(b8 (q2 M)++zs 8))):=hb2
   clear hb2 hc1
   repeat (first|refine TL.nil ?_|refine thenQ_normal ?_|refine T.seq ?_)
   apply T.any 8 [is _,is _,is _,is _,is _,is _,is _,is _];(· kernel_rfl);(· ((repeat' (first|exact allDo_end|refine allDo_cons ?_ ?_));(iterate 8 (· ((refine does_mk0 rfl rfl rfl ?_);( intro wq _ _ hgq;(repeat (refine need_cons rfl rfl ?_;intro vq hvq;try (obtain rfl:=hvq)));(refine need_nil ?_));(repeat (first|refine TL.load1 rfl yM rfl ?_|(refine TL.isIndex ?_;refine TL.indexArr rfl rfl (by omega) rfl rfl ?_)|refine TL.nil ?_|(refine TL.isOr ?_;refine TL.orM rfl rfl rfl rfl rfl (by omega) (by omega) rfl rfl ?_)|(refine TL.isShl ?_;refine TL.shlU rfl rfl rfl rfl rfl (by omega) rfl ?_)|refine TL.shrU rfl rfl rfl rfl rfl rfl ?_|(refine TL.isSlice ?_;refine TL.sliceArr rfl (bnd_lit rfl) (bnd_lit rfl) (by omega) (by omega) (by omega) rfl rfl ?_)));exact one_end rfl yG rfl)))));(rintro _ _ _ hgr _ _;(repeat (refine need_cons rfl rfl ?_;intro vq hvq;try (obtain rfl:=hvq)));(refine need_nil ?_))
   rw [r3]
   refine TL.call rfl (put_c _ _ _ _ _ _ _ yB (by exact Nat.le_of_ble_eq_true rfl)) rfl ?_
   rintro _ v3 ⟨rfl,hu3,hb3⟩
   have hc3:Blk v3 bk 269 (numL M):=hb3
   clear hb3 hc2
   repeat (first|(refine TL.isLoad ?_;refine TL.loadW rfl yB (by exact rfl) rfl ?_)|refine TL.nil ?_|refine thenQ_normal ?_|refine T.seq ?_|refine T.region ?_|(refine TL.isStore ?_;(refine TL.storeWh rfl rfl yB (by exact rfl) (by exact rfl) (by exact rfl) ?_;intro w' hu hbk hsz))|refine T.ret ?_)
   exact retC rfl (load_whole (by assumption) rfl) ⟨_,rfl,rfl,yG⟩
end Go.Proofs.YtoldjgmcoekchaaGreatDoor
namespace Go.Proofs.YtoldjgmcoekchaaGreatDoor
open Go Go.RowKit Go.V
theorem mul64_c (x y:Nat) (hx:x<18446744073709551616) (hy:y<18446744073709551616) (w:World) :
  Calls Tryz.prog 341 #[W1 x,W1 y] w (Ret λ v w'=>v=.tuple #[W1 (x*y / 18446744073709551616),W1 (x*y%18446744073709551616)]∧Grow w w'):=by
 refine V.calls (args:=[_,_]) Tryz.func341 rfl Tryz.ntmps341 rfl rfl ?_
 have ha:=Lib.half_mul_le (a:=x / 4294967296) (b:=y / 4294967296) (by omega) (by omega)
 have hb:=Lib.half_mul_le (a:=x / 4294967296) (b:=y%4294967296) (by omega) (by omega)
 have hc:=Lib.half_mul_le (a:=x%4294967296) (b:=y / 4294967296) (by omega) (by omega)
 have hd:=Lib.half_mul_le (a:=x%4294967296) (b:=y%4294967296) (by omega) (by omega)
 have hl:=(Lib.mul64_hi x y hx hy).2.2.2
 repeat (first|(refine TL.isMove ?_;refine TL.pure rfl rfl ?_)|(refine TL.isAsg ?_;refine TL.pure rfl rfl ?_)|(refine TL.isAdd ?_;refine TL.addU rfl rfl rfl (by omega) rfl ?_)|(refine TL.isMul ?_;first|refine TL.mulU rfl rfl rfl (by omega) rfl ?_|refine TL.mulW rfl rfl rfl rfl ?_)|(refine TL.isAnd ?_;refine TL.andU rfl rfl rfl rfl (by omega) (by omega) rfl ?_)|refine TL.nil ?_|refine thenQ_normal ?_|refine T.seq ?_|refine T.region ?_|refine TL.shrU rfl rfl rfl rfl rfl rfl ?_|refine T.ret ?_)
 refine ret2 rfl rfl ⟨_,rfl,?_,yG⟩
 rw [hl]
abbrev wide (s:Nat):Value:=.agg #[W1 (s / 18446744073709551616),W1 (s%18446744073709551616)]
theorem add64_row:Extern.allRows.lookup "math/bits.Add64" = some (Extern.MathBitsCarry.rows[0]'(by decide)).2:=by kernel_rfl
theorem add64_run {P:Program} (x y c:Nat) (hc:c≤1) (w:World):((Extern.MathBitsCarry.rows[0]'(by decide)).2 #[W1 x,W1 y,W1 c]).run P w=.ok (.tuple #[W1 ((x+y+c)%18446744073709551616),W1 ((x+y+c) / 18446744073709551616)]) w:=by
 obtain rfl|rfl:c=0∨c=1:=by omega
 ·rfl
 ·rfl
theorem plus_c (s a b:Nat) (ha:a<18446744073709551616) (hb:b<18446744073709551616) (hs:s+a*b<340282366920938463463374607431768211456) (w:World) :
  Calls Tryz.prog 377 #[wide s,W1 a,W1 b] w (Ret λ v w'=>v=wide (s+a*b)∧Grow w w'):=by
 refine V.calls (args:=[_,_,_]) Tryz.func377 rfl Tryz.ntmps377 rfl rfl ?_
 repeat (first|(refine TL.isMove ?_;refine TL.pure rfl rfl ?_)|refine TL.nil ?_|refine thenQ_normal ?_|refine T.seq ?_|refine T.region ?_|(refine TL.isBox ?_;(refine TL.box rfl rfl rfl ?_;intro bk w' hg hbk hsz hsz'))|(refine TL.isAlloc ?_;(refine TL.alloc rfl rfl ?_;intro bk w' hg hbk hsz hsz')))
 refine TL.call rfl (mul64_c a b ha hb _) rfl ?_
 rintro _ w2 ⟨rfl,hg2⟩
 generalize a*b=p at *
 repeat (first|(refine TL.isMove ?_;refine TL.pure rfl rfl ?_)|(refine TL.isAsg ?_;refine TL.pure rfl rfl ?_)|refine TL.load1 rfl yM rfl ?_|refine TL.fieldAddr rfl rfl ?_|refine TL.nil ?_|refine thenQ_normal ?_|refine T.seq ?_|refine T.region ?_|refine TL.pure rfl rfl ?_)
 refine TL.ext rfl add64_row (add64_run _ _ 0 (by omega) _) rfl ?_
 repeat (first|(refine TL.isMove ?_;refine TL.pure rfl rfl ?_)|(refine TL.isAsg ?_;refine TL.pure rfl rfl ?_)|refine TL.load1 rfl yM rfl ?_|refine TL.fieldAddr rfl rfl ?_|refine TL.nil ?_|refine thenQ_normal ?_|refine T.seq ?_|refine T.region ?_|refine TL.pure rfl rfl ?_)
 refine TL.ext rfl add64_row (add64_run _ _ _ (by omega) _) rfl ?_
 repeat (first|(refine TL.isMove ?_;refine TL.pure rfl rfl ?_)|(refine TL.isAsg ?_;refine TL.pure rfl rfl ?_)|refine TL.nil ?_|refine thenQ_normal ?_|refine T.seq ?_|refine T.region ?_|(refine TL.isStore ?_;(refine TL.storeWh rfl rfl yB (by exact rfl) (by exact rfl) (by exact rfl) ?_;intro w' hu hbk hsz))|refine TL.build rfl rfl rfl ?_|refine T.ret ?_|refine TL.pure rfl rfl ?_)
 have e1:(s / 18446744073709551616+p / 18446744073709551616+(s%18446744073709551616+p%18446744073709551616+0) / 18446744073709551616)%18446744073709551616=(s+p) / 18446744073709551616:=by omega
 have e2:(s%18446744073709551616+p%18446744073709551616+0)%18446744073709551616=(s+p)%18446744073709551616:=by omega
 refine retC rfl (load_whole (by assumption) rfl) ⟨_,rfl,?_,yG⟩
 show Value.agg #[W1 _,W1 _]=_
 rw [e1,e2]
theorem upper_c (s:Nat) (hs:s<340282366920938463463374607431768211456) (w:World) :
  Calls Tryz.prog 378 #[wide s] w (Ret λ v w'=>v=W1 (s / 2251799813685248%18446744073709551616)∧Grow w w'):=by
 refine V.calls (args:=[_]) Tryz.func378 rfl Tryz.ntmps378 rfl rfl ?_
 repeat (first|(refine TL.isAsg ?_;refine TL.pure rfl rfl ?_)|refine TL.load1 rfl yM rfl ?_|refine TL.fieldAddr rfl rfl ?_|refine TL.nil ?_|refine thenQ_normal ?_|refine T.seq ?_|refine T.region ?_|(refine TL.isOr ?_;refine TL.orL rfl rfl rfl rfl rfl (by omega) rfl rfl ?_)|refine TL.shlW rfl rfl rfl rfl rfl rfl ?_|refine TL.shrU rfl rfl rfl rfl rfl rfl ?_|(refine TL.isBox ?_;(refine TL.box rfl rfl rfl ?_;intro bk w' hg hbk hsz hsz'))|refine T.ret ?_)
 refine ret1 rfl ⟨_,rfl,?_,yG⟩
 rw [show s / 18446744073709551616*8192%18446744073709551616+s%18446744073709551616 / 2251799813685248=s / 2251799813685248%18446744073709551616 by omega]
end Go.Proofs.YtoldjgmcoekchaaGreatDoor
namespace Go.Proofs.YtoldjgmcoekchaaGreatDoor
open Go Go.RowKit Go.V
def Kept (p:Prop):Prop:=p
theorem mul_lt {x y X Y:Nat} (hx:x<X) (hy:y<Y):x*y<X*Y:=Nat.mul_lt_mul'' hx hy
theorem prod_id (a0 a1 a2 a3 a4 b0 b1 b2 b3 b4:Nat):V5 a0 a1 a2 a3 a4*V5 b0 b1 b2 b3 b4 =
  V5 (0+a0*b0+19*a1*b4+19*a2*b3+19*a3*b2+19*a4*b1) (0+a0*b1+a1*b0+19*a2*b4+19*a3*b3+19*a4*b2)
  (0+a0*b2+a1*b1+a2*b0+19*a3*b4+19*a4*b3) (0+a0*b3+a1*b2+a2*b1+a3*b0+19*a4*b4) (0+a0*b4+a1*b3+a2*b2+a3*b1+a4*b0)
  + p25519*(a1*b4+a2*b3+a3*b2+a4*b1+2251799813685248*(a2*b4+a3*b3+a4*b2)+5070602400912917605986812821504*(a3*b4+a4*b3)+11417981541647679048466287755595961091061972992*(a4*b4)):=by
 unfold V5 p25519
 grind
theorem fold_id (S0 S1 S2 S3 S4:Nat):V5 (S0%2251799813685248+19*(S4 / 2251799813685248)) (S1%2251799813685248+S0 / 2251799813685248) (S2%2251799813685248+S1 / 2251799813685248) (S3%2251799813685248+S2 / 2251799813685248) (S4%2251799813685248+S3 / 2251799813685248)+p25519*(S4 / 2251799813685248)=V5 S0 S1 S2 S3 S4:=by
 unfold V5 p25519
 omega
theorem fold_mod (S0 S1 S2 S3 S4:Nat):V5 (S0%2251799813685248+19*(S4 / 2251799813685248)) (S1%2251799813685248+S0 / 2251799813685248) (S2%2251799813685248+S1 / 2251799813685248) (S3%2251799813685248+S2 / 2251799813685248) (S4%2251799813685248+S3 / 2251799813685248)%p25519=V5 S0 S1 S2 S3 S4%p25519:=by
 rw [← fold_id S0 S1 S2 S3 S4,Nat.add_mul_mod_self_left]
theorem product_law (a0 a1 a2 a3 a4 b0 b1 b2 b3 b4 S0 S1 S2 S3 S4:Nat)
  (hs0:0+a0*b0+19*a1*b4+19*a2*b3+19*a3*b2+19*a4*b1=S0)
  (hs1:0+a0*b1+a1*b0+19*a2*b4+19*a3*b3+19*a4*b2=S1)
  (hs2:0+a0*b2+a1*b1+a2*b0+19*a3*b4+19*a4*b3=S2)
  (hs3:0+a0*b3+a1*b2+a2*b1+a3*b0+19*a4*b4=S3)
  (hs4:0+a0*b4+a1*b3+a2*b2+a3*b1+a4*b0=S4)
  (h0:S0<24987928631698857962303013584371712) (h1:S1<19146594665847176880206205213999104) (h2:S2<13305260699995495798109396843626496) (h3:S3<7463926734143814716012588473253888) (h4:S4<1622592768292133633915780102881280) :
  ∃ r0 r1 r2 r3 r4,
  wds ((S0%18446744073709551616%2251799813685248+19*(S4 / 2251799813685248%18446744073709551616))%2251799813685248+19*((S4%18446744073709551616%2251799813685248+S3 / 2251799813685248%18446744073709551616) / 2251799813685248))
   ((S1%18446744073709551616%2251799813685248+S0 / 2251799813685248%18446744073709551616)%2251799813685248+(S0%18446744073709551616%2251799813685248+19*(S4 / 2251799813685248%18446744073709551616)) / 2251799813685248)
   ((S2%18446744073709551616%2251799813685248+S1 / 2251799813685248%18446744073709551616)%2251799813685248+(S1%18446744073709551616%2251799813685248+S0 / 2251799813685248%18446744073709551616) / 2251799813685248)
   ((S3%18446744073709551616%2251799813685248+S2 / 2251799813685248%18446744073709551616)%2251799813685248+(S2%18446744073709551616%2251799813685248+S1 / 2251799813685248%18446744073709551616) / 2251799813685248)
   ((S4%18446744073709551616%2251799813685248+S3 / 2251799813685248%18446744073709551616)%2251799813685248+(S3%18446744073709551616%2251799813685248+S2 / 2251799813685248%18446744073709551616) / 2251799813685248)=wds r0 r1 r2 r3 r4 ∧
  (r0<4503599627370496∧r1<4503599627370496∧r2<4503599627370496∧r3<4503599627370496∧r4<4503599627370496) ∧
  V5 r0 r1 r2 r3 r4%p25519=V5 a0 a1 a2 a3 a4*V5 b0 b1 b2 b3 b4%p25519:=by
 refine ⟨_,_,_,_,_,rfl,?_,?_⟩
 ·clear hs0 hs1 hs2 hs3 hs4
  refine ⟨by omega,by omega,by omega,by omega,by omega⟩
 ·rw [fold_mod]
  have e0:S0%18446744073709551616%2251799813685248=S0%2251799813685248:=by omega
  have e1:S1%18446744073709551616%2251799813685248=S1%2251799813685248:=by omega
  have e2:S2%18446744073709551616%2251799813685248=S2%2251799813685248:=by omega
  have e3:S3%18446744073709551616%2251799813685248=S3%2251799813685248:=by omega
  have e4:S4%18446744073709551616%2251799813685248=S4%2251799813685248:=by omega
  have f0:S0 / 2251799813685248%18446744073709551616=S0 / 2251799813685248:=by omega
  have f1:S1 / 2251799813685248%18446744073709551616=S1 / 2251799813685248:=by omega
  have f2:S2 / 2251799813685248%18446744073709551616=S2 / 2251799813685248:=by omega
  have f3:S3 / 2251799813685248%18446744073709551616=S3 / 2251799813685248:=by omega
  have f4:S4 / 2251799813685248%18446744073709551616=S4 / 2251799813685248:=by omega
  rw [e0,e1,e2,e3,e4,f0,f1,f2,f3,f4,fold_mod,prod_id,hs0,hs1,hs2,hs3,hs4,Nat.add_mul_mod_self_left]
theorem product_c (ba bb a0 a1 a2 a3 a4 b0 b1 b2 b3 b4:Nat) (w:World) (hA:Blk w ba 406 [W1 a0,W1 a1,W1 a2,W1 a3,W1 a4]) (hB:Blk w bb 406 [W1 b0,W1 b1,W1 b2,W1 b3,W1 b4])
  (ha0:a0<18014398509481984)
  (ha1:a1<18014398509481984)
  (ha2:a2<18014398509481984)
  (ha3:a3<18014398509481984)
  (ha4:a4<18014398509481984)
  (hb0:b0<18014398509481984)
  (hb1:b1<18014398509481984)
  (hb2:b2<18014398509481984)
  (hb3:b3<18014398509481984)
  (hb4:b4<18014398509481984)
  : Calls Tryz.prog 329 #[.pointer (some ⟨ba,0,none⟩),.pointer (some ⟨bb,0,none⟩)] w (Ret λ v w'=>∃ r0 r1 r2 r3 r4,v=wds r0 r1 r2 r3 r4∧((r0<4503599627370496∧r1<4503599627370496∧r2<4503599627370496∧r3<4503599627370496∧r4<4503599627370496)∧V5 r0 r1 r2 r3 r4%p25519=V5 a0 a1 a2 a3 a4*V5 b0 b1 b2 b3 b4%p25519)∧Grow w w'):=by
 refine V.calls (args:=[_,_]) Tryz.func329 rfl Tryz.ntmps329 rfl rfl ?_
 have hA0:=hA.lt
 have hB0:=hB.lt
 repeat (first|refine TL.nil ?_|refine thenQ_normal ?_|refine T.seq ?_|refine T.region ?_|(refine TL.isAlloc ?_;(refine TL.alloc rfl rfl ?_;intro bk w' hg hbk hsz hsz')))
 replace hbk:Blk w' bk 406 [W1 0,W1 0,W1 0,W1 0,W1 0]:=hbk
 have hRl:w.heap.size≤bk:=by omega
 apply T.any 24 [is _,is _,is _,is _,is _,is _,is _,is _,is _,is _,is _,is _,is _,is _,is _,is _,is _,is _,is _,is _,is _,is _,is _,is _];(· kernel_rfl);(· ((repeat' (first|exact allDo_end|refine allDo_cons ?_ ?_));(iterate 24 (· ((refine does_mk0 rfl rfl rfl ?_);( intro wq _ _ hgq;(repeat (refine need_cons rfl rfl ?_;intro vq hvq;try (obtain rfl:=hvq)));(refine need_nil ?_));(repeat (first|(refine TL.isMove ?_;refine TL.pure rfl rfl ?_)|(refine TL.isAsg ?_;refine TL.pure rfl rfl ?_)|refine TL.load1 rfl yM rfl ?_|(refine TL.isIndex ?_;refine TL.indexArr rfl rfl (by omega) rfl rfl ?_)|(refine TL.isMul ?_;refine TL.mulU rfl rfl rfl (by omega) rfl ?_)|refine TL.nil ?_|refine TL.nilCheck rfl rfl ?_));exact one_end rfl yG rfl)))));(rintro _ _ _ hgr _ _;(repeat (refine need_cons rfl rfl ?_;intro vq hvq;try (obtain rfl:=hvq)));(refine need_nil ?_))
 repeat (first|refine TL.nil ?_|refine thenQ_normal ?_|refine T.seq ?_)
 refine T.weaken (e':=[(0,_),(1,_),(4,_),(5,_),(6,_),(7,_),(8,_)]) ?_ ⟨rfl,rfl,rfl,rfl,rfl,rfl,rfl,trivial⟩
 have p00:=mul_lt (show a0<18014398509481984 by omega) hb0
 have p01:=mul_lt (show 19*a1<342273571680157696 by omega) hb4
 have p02:=mul_lt (show 19*a2<342273571680157696 by omega) hb3
 have p03:=mul_lt (show 19*a3<342273571680157696 by omega) hb2
 have p04:=mul_lt (show 19*a4<342273571680157696 by omega) hb1
 apply T.any 35 [is (wide 0),is _,is _,is _,is _,is _,is _,is _,is _,is _,is _,is _,is _,is _,is _,is _,is _,is _,is _,is _,is _,is _,is _,is _,is _,is _,is _,is _,is _,is _,is _,is _,is _,is _,newB 447 [W1 0,W1 0]];(· kernel_rfl);(· ((repeat' (first|exact allDo_end|refine allDo_cons ?_ ?_));(iterate 34 (· ((refine does_mk0 rfl rfl rfl ?_);( intro wq _ _ hgq;(repeat (refine need_cons rfl rfl ?_;intro vq hvq;try (obtain rfl:=hvq)));(refine need_nil ?_));(repeat (first|(refine TL.isMove ?_;refine TL.pure rfl rfl ?_)|refine TL.load1 rfl yM rfl ?_|(refine TL.isIndex ?_;refine TL.indexArr rfl rfl (by omega) rfl rfl ?_)|refine TL.nil ?_|refine TL.build rfl rfl rfl ?_|refine TL.nilCheck rfl rfl ?_|(refine TL.call rfl (plus_c _ _ _ (by omega) (by omega) (by omega) _) rfl ?_;rintro _ _ ⟨rfl,hgc⟩)));exact one_end rfl yG rfl)));((refine does_mk0 rfl rfl rfl ?_);( intro wq _ _ hgq;(repeat (refine need_cons rfl rfl ?_;intro vq hvq;try (obtain rfl:=hvq)));(refine need_nil ?_));(repeat (first|refine TL.nil ?_|(refine TL.isAlloc ?_;(refine TL.alloc rfl rfl ?_;intro bk w' hg hbk hsz hsz'))));exact one_end rfl yG ⟨_,rfl,by omega,by omega,by assumption⟩)));(rintro _ _ _ hgr hspan _;(repeat (refine need_cons rfl rfl ?_;intro vq hvq;try (obtain rfl:=hvq)));(refine need_nil ?_);obtain ⟨bn,rfl,hn1,hn2,hnb⟩:=hvq;have hsp:=hspan 34 (by omega);replace hn1:=Nat.le_trans hsp.1 hn1;replace hn2:=Nat.lt_of_lt_of_le hn2 hsp.2.2;clear hspan hsp)
 repeat (first|refine TL.nil ?_|refine thenQ_normal ?_|refine T.seq ?_|(refine TL.isStore ?_;(refine TL.storeWh rfl rfl yB (by exact rfl) (by exact rfl) (by exact rfl) ?_;intro w' hu hbk hsz)))
 have hS0:0+a0*b0+19*a1*b4+19*a2*b3+19*a3*b2+19*a4*b1<24987928631698857962303013584371712:=by omega
 generalize hs0:0+a0*b0+19*a1*b4+19*a2*b3+19*a3*b2+19*a4*b1=S0 at *
 replace hs0:Kept (0+a0*b0+19*a1*b4+19*a2*b3+19*a3*b2+19*a4*b1=S0):=hs0
 refine T.weaken (e':=[(0,_),(1,_),(4,_),(5,_),(6,_),(7,_),(8,_),(9,_)]) ?_ ⟨rfl,rfl,rfl,rfl,rfl,rfl,rfl,rfl,trivial⟩
 obtain ⟨bn0,hbnx⟩:∃ b,b=bn:=⟨_,rfl⟩
 subst hbnx
 have hR1:Blk w' bk 406 [W1 0,W1 0,W1 0,W1 0,W1 0]:=by exact yB
 have hA1:Blk w' ba 406 [W1 a0,W1 a1,W1 a2,W1 a3,W1 a4]:=by exact yB
 have hB1:Blk w' bb 406 [W1 b0,W1 b1,W1 b2,W1 b3,W1 b4]:=by exact yB
 have hK0_1:=hbk
 have hAl:=(show ba<w'.heap.size from hA1.lt)
 have hRL:=(show bk<w'.heap.size from hR1.lt)
 have hBl:=(show bb<w'.heap.size from hB1.lt)
 have hL0:=hK0_1.lt
 have hG1:Grow w w':=by exact yG
 clear hgr hnb hn1 hn2 hu hbk hsz p00 p01 p02 p03 p04 hA hB hA0 hB0 hg hsz'
 repeat (rename_i z;clear z)
 clear hgr hsz hbk
 repeat (rename_i z;clear z)
 have p10:=mul_lt (show a0<18014398509481984 by omega) hb1
 have p11:=mul_lt (show a1<18014398509481984 by omega) hb0
 have p12:=mul_lt (show 19*a2<342273571680157696 by omega) hb4
 have p13:=mul_lt (show 19*a3<342273571680157696 by omega) hb3
 have p14:=mul_lt (show 19*a4<342273571680157696 by omega) hb2
 apply T.any 38 [is (wide 0),is _,is _,is _,is _,is _,is _,is _,is _,is _,is _,is _,is _,is _,is _,is _,is _,is _,is _,is _,is _,is _,is _,is _,is _,is _,is _,is _,is _,is _,is _,is _,is _,is _,is _,is _,is _,newB 447 [W1 0,W1 0]];(· kernel_rfl);(· ((repeat' (first|exact allDo_end|refine allDo_cons ?_ ?_));(iterate 37 (· ((refine does_mk0 rfl rfl rfl ?_);( intro wq _ _ hgq;(repeat (refine need_cons rfl rfl ?_;intro vq hvq;try (obtain rfl:=hvq)));(refine need_nil ?_));(repeat (first|(refine TL.isMove ?_;refine TL.pure rfl rfl ?_)|refine TL.load1 rfl yM rfl ?_|(refine TL.isIndex ?_;refine TL.indexArr rfl rfl (by omega) rfl rfl ?_)|refine TL.nil ?_|refine TL.build rfl rfl rfl ?_|refine TL.nilCheck rfl rfl ?_|(refine TL.call rfl (plus_c _ _ _ (by omega) (by omega) (by omega) _) rfl ?_;rintro _ _ ⟨rfl,hgc⟩)));exact one_end rfl yG rfl)));((refine does_mk0 rfl rfl rfl ?_);( intro wq _ _ hgq;(repeat (refine need_cons rfl rfl ?_;intro vq hvq;try (obtain rfl:=hvq)));(refine need_nil ?_));(repeat (first|refine TL.nil ?_|(refine TL.isAlloc ?_;(refine TL.alloc rfl rfl ?_;intro bk w' hg hbk hsz hsz'))));exact one_end rfl yG ⟨_,rfl,by omega,by omega,by assumption⟩)));(rintro _ _ _ hgr hspan _;(repeat (refine need_cons rfl rfl ?_;intro vq hvq;try (obtain rfl:=hvq)));(refine need_nil ?_);obtain ⟨bn,rfl,hn1,hn2,hnb⟩:=hvq;have hsp:=hspan 37 (by omega);replace hn1:=Nat.le_trans hsp.1 hn1;replace hn2:=Nat.lt_of_lt_of_le hn2 hsp.2.2;clear hspan hsp)
 repeat (first|refine TL.nil ?_|refine thenQ_normal ?_|refine T.seq ?_|(refine TL.isStore ?_;(refine TL.storeWh rfl rfl yB (by exact rfl) (by exact rfl) (by exact rfl) ?_;intro w' hu hbk hsz)))
 have hS1:0+a0*b1+a1*b0+19*a2*b4+19*a3*b3+19*a4*b2<19146594665847176880206205213999104:=by omega
 generalize hs1:0+a0*b1+a1*b0+19*a2*b4+19*a3*b3+19*a4*b2=S1 at *
 replace hs1:Kept (0+a0*b1+a1*b0+19*a2*b4+19*a3*b3+19*a4*b2=S1):=hs1
 refine T.weaken (e':=[(0,_),(1,_),(4,_),(5,_),(6,_),(7,_),(8,_),(9,_),(10,_)]) ?_ ⟨rfl,rfl,rfl,rfl,rfl,rfl,rfl,rfl,rfl,trivial⟩
 obtain ⟨bn1,hbnx⟩:∃ b,b=bn:=⟨_,rfl⟩
 subst hbnx
 have hR2:Blk w' bk 406 [W1 0,W1 0,W1 0,W1 0,W1 0]:=by exact yB
 have hA2:Blk w' ba 406 [W1 a0,W1 a1,W1 a2,W1 a3,W1 a4]:=by exact yB
 have hB2:Blk w' bb 406 [W1 b0,W1 b1,W1 b2,W1 b3,W1 b4]:=by exact yB
 have hK0_2:Blk w' bn0 447 [W1 (S0 / 18446744073709551616),W1 (S0%18446744073709551616)]:=by exact yB
 have hK1_2:=hbk
 have hAl:=(show ba<w'.heap.size from hA2.lt)
 have hRL:=(show bk<w'.heap.size from hR2.lt)
 have hBl:=(show bb<w'.heap.size from hB2.lt)
 have hL0:=hK0_2.lt
 have hL1:=hK1_2.lt
 have hG2:Grow w w':=by exact yG
 clear hgr hnb hn1 hn2 hu hbk hsz p10 p11 p12 p13 p14 hA1 hB1 hR1 hG1 hK0_1
 repeat (rename_i z;clear z)
 have p20:=mul_lt (show a0<18014398509481984 by omega) hb2
 have p21:=mul_lt (show a1<18014398509481984 by omega) hb1
 have p22:=mul_lt (show a2<18014398509481984 by omega) hb0
 have p23:=mul_lt (show 19*a3<342273571680157696 by omega) hb4
 have p24:=mul_lt (show 19*a4<342273571680157696 by omega) hb3
 apply T.any 41 [is (wide 0),is _,is _,is _,is _,is _,is _,is _,is _,is _,is _,is _,is _,is _,is _,is _,is _,is _,is _,is _,is _,is _,is _,is _,is _,is _,is _,is _,is _,is _,is _,is _,is _,is _,is _,is _,is _,is _,is _,is _,newB 447 [W1 0,W1 0]];(· kernel_rfl);(· ((repeat' (first|exact allDo_end|refine allDo_cons ?_ ?_));(iterate 40 (· ((refine does_mk0 rfl rfl rfl ?_);( intro wq _ _ hgq;(repeat (refine need_cons rfl rfl ?_;intro vq hvq;try (obtain rfl:=hvq)));(refine need_nil ?_));(repeat (first|(refine TL.isMove ?_;refine TL.pure rfl rfl ?_)|refine TL.load1 rfl yM rfl ?_|(refine TL.isIndex ?_;refine TL.indexArr rfl rfl (by omega) rfl rfl ?_)|refine TL.nil ?_|refine TL.build rfl rfl rfl ?_|refine TL.nilCheck rfl rfl ?_|(refine TL.call rfl (plus_c _ _ _ (by omega) (by omega) (by omega) _) rfl ?_;rintro _ _ ⟨rfl,hgc⟩)));exact one_end rfl yG rfl)));((refine does_mk0 rfl rfl rfl ?_);( intro wq _ _ hgq;(repeat (refine need_cons rfl rfl ?_;intro vq hvq;try (obtain rfl:=hvq)));(refine need_nil ?_));(repeat (first|refine TL.nil ?_|(refine TL.isAlloc ?_;(refine TL.alloc rfl rfl ?_;intro bk w' hg hbk hsz hsz'))));exact one_end rfl yG ⟨_,rfl,by omega,by omega,by assumption⟩)));(rintro _ _ _ hgr hspan _;(repeat (refine need_cons rfl rfl ?_;intro vq hvq;try (obtain rfl:=hvq)));(refine need_nil ?_);obtain ⟨bn,rfl,hn1,hn2,hnb⟩:=hvq;have hsp:=hspan 40 (by omega);replace hn1:=Nat.le_trans hsp.1 hn1;replace hn2:=Nat.lt_of_lt_of_le hn2 hsp.2.2;clear hspan hsp)
 repeat (first|refine TL.nil ?_|refine thenQ_normal ?_|refine T.seq ?_|(refine TL.isStore ?_;(refine TL.storeWh rfl rfl yB (by exact rfl) (by exact rfl) (by exact rfl) ?_;intro w' hu hbk hsz)))
 have hS2:0+a0*b2+a1*b1+a2*b0+19*a3*b4+19*a4*b3<13305260699995495798109396843626496:=by omega
 generalize hs2:0+a0*b2+a1*b1+a2*b0+19*a3*b4+19*a4*b3=S2 at *
 replace hs2:Kept (0+a0*b2+a1*b1+a2*b0+19*a3*b4+19*a4*b3=S2):=hs2
 refine T.weaken (e':=[(0,_),(1,_),(4,_),(5,_),(6,_),(7,_),(8,_),(9,_),(10,_),(11,_)]) ?_ ⟨rfl,rfl,rfl,rfl,rfl,rfl,rfl,rfl,rfl,rfl,trivial⟩
 obtain ⟨bn2,hbnx⟩:∃ b,b=bn:=⟨_,rfl⟩
 subst hbnx
 have hR3:Blk w' bk 406 [W1 0,W1 0,W1 0,W1 0,W1 0]:=by exact yB
 have hA3:Blk w' ba 406 [W1 a0,W1 a1,W1 a2,W1 a3,W1 a4]:=by exact yB
 have hB3:Blk w' bb 406 [W1 b0,W1 b1,W1 b2,W1 b3,W1 b4]:=by exact yB
 have hK0_3:Blk w' bn0 447 [W1 (S0 / 18446744073709551616),W1 (S0%18446744073709551616)]:=by exact yB
 have hK1_3:Blk w' bn1 447 [W1 (S1 / 18446744073709551616),W1 (S1%18446744073709551616)]:=by exact yB
 have hK2_3:=hbk
 have hAl:=(show ba<w'.heap.size from hA3.lt)
 have hRL:=(show bk<w'.heap.size from hR3.lt)
 have hBl:=(show bb<w'.heap.size from hB3.lt)
 have hL0:=hK0_3.lt
 have hL1:=hK1_3.lt
 have hL2:=hK2_3.lt
 have hG3:Grow w w':=by exact yG
 clear hgr hnb hn1 hn2 hu hbk hsz p20 p21 p22 p23 p24 hA2 hB2 hR2 hG2 hK0_2 hK1_2
 repeat (rename_i z;clear z)
 have p30:=mul_lt (show a0<18014398509481984 by omega) hb3
 have p31:=mul_lt (show a1<18014398509481984 by omega) hb2
 have p32:=mul_lt (show a2<18014398509481984 by omega) hb1
 have p33:=mul_lt (show a3<18014398509481984 by omega) hb0
 have p34:=mul_lt (show 19*a4<342273571680157696 by omega) hb4
 apply T.any 44 [is (wide 0),is _,is _,is _,is _,is _,is _,is _,is _,is _,is _,is _,is _,is _,is _,is _,is _,is _,is _,is _,is _,is _,is _,is _,is _,is _,is _,is _,is _,is _,is _,is _,is _,is _,is _,is _,is _,is _,is _,is _,is _,is _,is _,newB 447 [W1 0,W1 0]];(· kernel_rfl);(· ((repeat' (first|exact allDo_end|refine allDo_cons ?_ ?_));(iterate 43 (· ((refine does_mk0 rfl rfl rfl ?_);( intro wq _ _ hgq;(repeat (refine need_cons rfl rfl ?_;intro vq hvq;try (obtain rfl:=hvq)));(refine need_nil ?_));(repeat (first|(refine TL.isMove ?_;refine TL.pure rfl rfl ?_)|refine TL.load1 rfl yM rfl ?_|(refine TL.isIndex ?_;refine TL.indexArr rfl rfl (by omega) rfl rfl ?_)|refine TL.nil ?_|refine TL.build rfl rfl rfl ?_|refine TL.nilCheck rfl rfl ?_|(refine TL.call rfl (plus_c _ _ _ (by omega) (by omega) (by omega) _) rfl ?_;rintro _ _ ⟨rfl,hgc⟩)));exact one_end rfl yG rfl)));((refine does_mk0 rfl rfl rfl ?_);( intro wq _ _ hgq;(repeat (refine need_cons rfl rfl ?_;intro vq hvq;try (obtain rfl:=hvq)));(refine need_nil ?_));(repeat (first|refine TL.nil ?_|(refine TL.isAlloc ?_;(refine TL.alloc rfl rfl ?_;intro bk w' hg hbk hsz hsz'))));exact one_end rfl yG ⟨_,rfl,by omega,by omega,by assumption⟩)));(rintro _ _ _ hgr hspan _;(repeat (refine need_cons rfl rfl ?_;intro vq hvq;try (obtain rfl:=hvq)));(refine need_nil ?_);obtain ⟨bn,rfl,hn1,hn2,hnb⟩:=hvq;have hsp:=hspan 43 (by omega);replace hn1:=Nat.le_trans hsp.1 hn1;replace hn2:=Nat.lt_of_lt_of_le hn2 hsp.2.2;clear hspan hsp)
 repeat (first|refine TL.nil ?_|refine thenQ_normal ?_|refine T.seq ?_|(refine TL.isStore ?_;(refine TL.storeWh rfl rfl yB (by exact rfl) (by exact rfl) (by exact rfl) ?_;intro w' hu hbk hsz)))
 have hS3:0+a0*b3+a1*b2+a2*b1+a3*b0+19*a4*b4<7463926734143814716012588473253888:=by omega
 generalize hs3:0+a0*b3+a1*b2+a2*b1+a3*b0+19*a4*b4=S3 at *
 replace hs3:Kept (0+a0*b3+a1*b2+a2*b1+a3*b0+19*a4*b4=S3):=hs3
 refine T.weaken (e':=[(0,_),(1,_),(4,_),(5,_),(6,_),(7,_),(8,_),(9,_),(10,_),(11,_),(12,_)]) ?_ ⟨rfl,rfl,rfl,rfl,rfl,rfl,rfl,rfl,rfl,rfl,rfl,trivial⟩
 obtain ⟨bn3,hbnx⟩:∃ b,b=bn:=⟨_,rfl⟩
 subst hbnx
 have hR4:Blk w' bk 406 [W1 0,W1 0,W1 0,W1 0,W1 0]:=by exact yB
 have hA4:Blk w' ba 406 [W1 a0,W1 a1,W1 a2,W1 a3,W1 a4]:=by exact yB
 have hB4:Blk w' bb 406 [W1 b0,W1 b1,W1 b2,W1 b3,W1 b4]:=by exact yB
 have hK0_4:Blk w' bn0 447 [W1 (S0 / 18446744073709551616),W1 (S0%18446744073709551616)]:=by exact yB
 have hK1_4:Blk w' bn1 447 [W1 (S1 / 18446744073709551616),W1 (S1%18446744073709551616)]:=by exact yB
 have hK2_4:Blk w' bn2 447 [W1 (S2 / 18446744073709551616),W1 (S2%18446744073709551616)]:=by exact yB
 have hK3_4:=hbk
 have hAl:=(show ba<w'.heap.size from hA4.lt)
 have hRL:=(show bk<w'.heap.size from hR4.lt)
 have hBl:=(show bb<w'.heap.size from hB4.lt)
 have hL0:=hK0_4.lt
 have hL1:=hK1_4.lt
 have hL2:=hK2_4.lt
 have hL3:=hK3_4.lt
 have hG4:Grow w w':=by exact yG
 clear hgr hnb hn1 hn2 hu hbk hsz p30 p31 p32 p33 p34 hA3 hB3 hR3 hG3 hK0_3 hK1_3 hK2_3
 repeat (rename_i z;clear z)
 have p40:=mul_lt (show a0<18014398509481984 by omega) hb4
 have p41:=mul_lt (show a1<18014398509481984 by omega) hb3
 have p42:=mul_lt (show a2<18014398509481984 by omega) hb2
 have p43:=mul_lt (show a3<18014398509481984 by omega) hb1
 have p44:=mul_lt (show a4<18014398509481984 by omega) hb0
 apply T.any 47 [is (wide 0),is _,is _,is _,is _,is _,is _,is _,is _,is _,is _,is _,is _,is _,is _,is _,is _,is _,is _,is _,is _,is _,is _,is _,is _,is _,is _,is _,is _,is _,is _,is _,is _,is _,is _,is _,is _,is _,is _,is _,is _,is _,is _,is _,is _,is _,newB 447 [W1 0,W1 0]];(· kernel_rfl);(· ((repeat' (first|exact allDo_end|refine allDo_cons ?_ ?_));(iterate 46 (· ((refine does_mk0 rfl rfl rfl ?_);( intro wq _ _ hgq;(repeat (refine need_cons rfl rfl ?_;intro vq hvq;try (obtain rfl:=hvq)));(refine need_nil ?_));(repeat (first|(refine TL.isMove ?_;refine TL.pure rfl rfl ?_)|refine TL.load1 rfl yM rfl ?_|(refine TL.isIndex ?_;refine TL.indexArr rfl rfl (by omega) rfl rfl ?_)|refine TL.nil ?_|refine TL.build rfl rfl rfl ?_|refine TL.nilCheck rfl rfl ?_|(refine TL.call rfl (plus_c _ _ _ (by omega) (by omega) (by omega) _) rfl ?_;rintro _ _ ⟨rfl,hgc⟩)));exact one_end rfl yG rfl)));((refine does_mk0 rfl rfl rfl ?_);( intro wq _ _ hgq;(repeat (refine need_cons rfl rfl ?_;intro vq hvq;try (obtain rfl:=hvq)));(refine need_nil ?_));(repeat (first|refine TL.nil ?_|(refine TL.isAlloc ?_;(refine TL.alloc rfl rfl ?_;intro bk w' hg hbk hsz hsz'))));exact one_end rfl yG ⟨_,rfl,by omega,by omega,by assumption⟩)));(rintro _ _ _ hgr hspan _;(repeat (refine need_cons rfl rfl ?_;intro vq hvq;try (obtain rfl:=hvq)));(refine need_nil ?_);obtain ⟨bn,rfl,hn1,hn2,hnb⟩:=hvq;have hsp:=hspan 46 (by omega);replace hn1:=Nat.le_trans hsp.1 hn1;replace hn2:=Nat.lt_of_lt_of_le hn2 hsp.2.2;clear hspan hsp)
 repeat (first|refine TL.nil ?_|refine thenQ_normal ?_|refine T.seq ?_|(refine TL.isStore ?_;(refine TL.storeWh rfl rfl yB (by exact rfl) (by exact rfl) (by exact rfl) ?_;intro w' hu hbk hsz)))
 have hS4:0+a0*b4+a1*b3+a2*b2+a3*b1+a4*b0<1622592768292133633915780102881280:=by omega
 generalize hs4:0+a0*b4+a1*b3+a2*b2+a3*b1+a4*b0=S4 at *
 replace hs4:Kept (0+a0*b4+a1*b3+a2*b2+a3*b1+a4*b0=S4):=hs4
 refine T.weaken (e':=[(0,_),(1,_),(4,_),(5,_),(6,_),(7,_),(8,_),(9,_),(10,_),(11,_),(12,_),(13,_)]) ?_ ⟨rfl,rfl,rfl,rfl,rfl,rfl,rfl,rfl,rfl,rfl,rfl,rfl,trivial⟩
 obtain ⟨bn4,hbnx⟩:∃ b,b=bn:=⟨_,rfl⟩
 subst hbnx
 have hR5:Blk w' bk 406 [W1 0,W1 0,W1 0,W1 0,W1 0]:=by exact yB
 have hA5:Blk w' ba 406 [W1 a0,W1 a1,W1 a2,W1 a3,W1 a4]:=by exact yB
 have hB5:Blk w' bb 406 [W1 b0,W1 b1,W1 b2,W1 b3,W1 b4]:=by exact yB
 have hK0_5:Blk w' bn0 447 [W1 (S0 / 18446744073709551616),W1 (S0%18446744073709551616)]:=by exact yB
 have hK1_5:Blk w' bn1 447 [W1 (S1 / 18446744073709551616),W1 (S1%18446744073709551616)]:=by exact yB
 have hK2_5:Blk w' bn2 447 [W1 (S2 / 18446744073709551616),W1 (S2%18446744073709551616)]:=by exact yB
 have hK3_5:Blk w' bn3 447 [W1 (S3 / 18446744073709551616),W1 (S3%18446744073709551616)]:=by exact yB
 have hK4_5:=hbk
 have hAl:=(show ba<w'.heap.size from hA5.lt)
 have hRL:=(show bk<w'.heap.size from hR5.lt)
 have hBl:=(show bb<w'.heap.size from hB5.lt)
 have hL0:=hK0_5.lt
 have hL1:=hK1_5.lt
 have hL2:=hK2_5.lt
 have hL3:=hK3_5.lt
 have hL4:=hK4_5.lt
 have hG5:Grow w w':=by exact yG
 clear hgr hnb hn1 hn2 hu hbk hsz p40 p41 p42 p43 p44 hA4 hB4 hR4 hG4 hK0_4 hK1_4 hK2_4 hK3_4
 repeat (rename_i z;clear z)
 apply T.any 33 [is _,is _,is _,is _,is _,is _,is _,is _,is _,is _,is _,is _,is _,is _,is _,is _,is _,is _,is _,is _,is _,is _,is _,is _,is _,is _,is _,is _,is _,is _,is _,is _,is _];(· kernel_rfl);(· ((repeat' (first|exact allDo_end|refine allDo_cons ?_ ?_));(iterate 33 (· ((refine does_mk0 rfl rfl rfl ?_);( intro wq _ _ hgq;(repeat (refine need_cons rfl rfl ?_;intro vq hvq;try (obtain rfl:=hvq)));(refine need_nil ?_));(repeat (first|(refine TL.isLoad ?_;first|refine TL.load1 rfl yM rfl ?_|refine TL.loadW rfl yB (by exact rfl) rfl ?_)|refine TL.fieldAddr rfl rfl ?_|(refine TL.isAdd ?_;refine TL.addU rfl rfl rfl (by omega) rfl ?_)|(refine TL.isMul ?_;refine TL.mulU rfl rfl rfl (by omega) rfl ?_)|(refine TL.isAnd ?_;refine TL.andU rfl rfl rfl rfl (by omega) (by omega) rfl ?_)|refine TL.nil ?_|refine TL.buildArr rfl rfl rfl ?_|(refine TL.call rfl (upper_c _ (by omega) _) rfl ?_;rintro _ _ ⟨rfl,hgc⟩)|(refine TL.call rfl (carried_c _ _ _ _ _ (by omega) (by omega) (by omega) (by omega) (by omega) _) rfl ?_;rintro _ _ ⟨rfl,hgc⟩)));exact one_end rfl yG rfl)))));(rintro _ _ _ hgr _ _;(repeat (refine need_cons rfl rfl ?_;intro vq hvq;try (obtain rfl:=hvq)));(refine need_nil ?_))
 repeat (first|refine TL.nil ?_|refine thenQ_normal ?_|(refine TL.isStore ?_;(refine TL.storeWh rfl rfl yB (by exact rfl) (by exact rfl) (by exact rfl) ?_;intro w' hu hbk hsz))|refine T.ret ?_)
 obtain ⟨r0,r1,r2,r3,r4,hv,hb⟩:=product_law a0 a1 a2 a3 a4 b0 b1 b2 b3 b4 S0 S1 S2 S3 S4 hs0 hs1 hs2 hs3 hs4 hS0 hS1 hS2 hS3 hS4
 exact retC rfl (load_whole (by assumption) rfl) ⟨_,rfl,r0,r1,r2,r3,r4,hv,hb,yG⟩
end Go.Proofs.YtoldjgmcoekchaaGreatDoor
namespace Go.Proofs.YtoldjgmcoekchaaGreatDoor
open Go Go.RowKit Go.V
theorem l0_lt (N:Nat):l0 N<2251799813685248:=Nat.mod_lt _ (by decide)
theorem l1_lt (N:Nat):l1 N<2251799813685248:=Nat.mod_lt _ (by decide)
theorem l2_lt (N:Nat):l2 N<2251799813685248:=Nat.mod_lt _ (by decide)
theorem l3_lt (N:Nat):l3 N<2251799813685248:=Nat.mod_lt _ (by decide)
theorem l4_lt {N:Nat} (h:N<115792089237316195423570985008687907853269984665640564039457584007913129639936):l4 N<4503599627370496:=by unfold l4;omega
theorem V5_l (N:Nat):V5 (l0 N) (l1 N) (l2 N) (l3 N) (l4 N)=N:=by unfold V5 l0 l1 l2 l3 l4;omega
theorem V5_add (a b c d e a' b' c' d' e':Nat):V5 (a+a') (b+b') (c+c') (d+d') (e+e')=V5 a b c d e+V5 a' b' c' d' e':=by unfold V5;omega
theorem V5_sub (a b c d e a' b' c' d' e':Nat) (h0:a'≤9007199254740916) (h1:b'≤9007199254740988) (h2:c'≤9007199254740988) (h3:d'≤9007199254740988) (h4:e'≤9007199254740988) :
  V5 (a+(9007199254740916-a')) (b+(9007199254740988-b')) (c+(9007199254740988-c')) (d+(9007199254740988-d')) (e+(9007199254740988-e'))+V5 a' b' c' d' e'=V5 a b c d e+4*p25519:=by
 unfold V5 p25519;omega
theorem sub_mod {S N M:Nat} (hM:M<115792089237316195423570985008687907853269984665640564039457584007913129639936) (h:S+M=N+4*p25519):S%p25519=(N+(p25519-M%p25519))%p25519:=by
 have h1:M%p25519<p25519:=Nat.mod_lt _ (by decide)
 have h2:=Nat.div_add_mod M p25519
 have h3:M / p25519≤2:=by
  show M / 57896044618658097711785492504343953926634992332820282019728792003956564819949≤2
  omega
 generalize M / p25519=q at *
 have h4:S=(N+(p25519-M%p25519))+p25519*(3-q):=by
  obtain rfl|rfl|rfl:q=0∨q=1∨q=2:=by omega
  all_goals omega
 rw [h4,Nat.add_mul_mod_self_left]
theorem mul_c (N M:Nat) (hN:N<115792089237316195423570985008687907853269984665640564039457584007913129639936) (hM:M<115792089237316195423570985008687907853269984665640564039457584007913129639936) (w:World) :
  Calls Tryz.prog 247 #[num N,num M] w (Ret λ v w'=>v=num (N*M%p25519)∧Grow w w'):=by
 refine V.calls (args:=[_,_]) Tryz.func247 rfl Tryz.ntmps247 rfl rfl ?_
 have h0:=l0_lt N
 have h1:=l1_lt N
 have h2:=l2_lt N
 have h3:=l3_lt N
 have h4:=l4_lt hN
 have k0:=l0_lt M
 have k1:=l1_lt M
 have k2:=l2_lt M
 have k3:=l3_lt M
 have k4:=l4_lt hM
 repeat (first|refine TL.nil ?_|refine thenQ_normal ?_|refine T.seq ?_|refine T.region ?_|(refine TL.isBox ?_;(refine TL.box rfl rfl rfl ?_;intro bk w' hg hbk hsz hsz'))|(refine TL.isAlloc ?_;(refine TL.alloc rfl rfl ?_;intro bk w' hg hbk hsz hsz')))
 (apply T.any 6 [is _,is _,is _,is _,newB 406 [W1 0,W1 0,W1 0,W1 0,W1 0],newB 406 [W1 0,W1 0,W1 0,W1 0,W1 0]];(· kernel_rfl);(· ((repeat' (first|exact allDo_end|refine allDo_cons ?_ ?_));(iterate 4 (· ((refine does_mk0 rfl rfl rfl ?_);( intro wq _ _ hgq;(repeat (refine need_cons rfl rfl ?_;intro vq hvq;try (obtain rfl:=hvq)));(refine need_nil ?_));(repeat (first|(refine TL.isLoad ?_;refine TL.loadW rfl yB (by exact rfl) rfl ?_)|refine TL.nil ?_|(refine TL.call rfl (load_c _ (by assumption) _) rfl ?_;rintro _ _ ⟨rfl,hgc⟩)));exact one_end rfl yG rfl)));(iterate 2 (· (refine does_mk0 rfl rfl rfl ?_);( intro wq _ _ hgq;(repeat (refine need_cons rfl rfl ?_;intro vq hvq;try (obtain rfl:=hvq)));(refine need_nil ?_));(repeat (first|refine TL.nil ?_|(refine TL.isAlloc ?_;(refine TL.alloc rfl rfl ?_;intro bk w' hg hbk hsz hsz'))));exact one_end rfl yG ⟨_,rfl,by omega,by omega,by assumption⟩))));(rintro _ _ _ hgr hspan hdj;(repeat (refine need_cons rfl rfl ?_;intro vq hvq;try (obtain rfl:=hvq)));(refine need_nil ?_));obtain ⟨bn2,rfl,hl2,hh2,hnb2⟩:=hvq;obtain ⟨bn1,rfl,hl1,hh1,hnb1⟩:=hvq;(try simp only [Nat.reduceAdd] at hl1 hh1 hl2 hh2);have hd21:bn2≠bn1:=(by have hz:=hdj 5 4 (by omega) (by omega) (by omega);omega);have hsp:=hspan 4 (by omega);replace hl1:=Nat.le_trans hsp.1 hl1;replace hh1:=Nat.lt_of_lt_of_le hh1 hsp.2.2;clear hsp;have hsp:=hspan 5 (by omega);replace hl2:=Nat.le_trans hsp.1 hl2;replace hh2:=Nat.lt_of_lt_of_le hh2 hsp.2.2;clear hsp;clear hspan hdj)
 repeat (first|refine TL.nil ?_|refine thenQ_normal ?_|refine T.seq ?_|refine T.region ?_|(refine TL.isStore ?_;(refine TL.storeWh rfl rfl yB (by exact rfl) (by exact rfl) (by exact rfl) ?_;intro w' hu hbk hsz)))
 have c1:Blk w' bn2 406 [W1 (l0 M),W1 (l1 M),W1 (l2 M),W1 (l3 M),W1 (l4 M)]:=hbk
 have c0:Blk w' bn1 406 [W1 (l0 N),W1 (l1 N),W1 (l2 N),W1 (l3 N),W1 (l4 N)]:=by exact yB
 repeat (refine T.seq ?_)
 refine TL.call rfl (product_c _ _ _ _ _ _ _ _ _ _ _ _ _ c0 c1 (by omega) (by omega) (by omega) (by omega) (by omega) (by omega) (by omega) (by omega) (by omega) (by omega)) rfl ?_
 rintro _ w4 ⟨r0,r1,r2,r3,r4,rfl,⟨⟨b0,b1,b2,b3,b4⟩,hv⟩,hg4⟩
 rw [V5_l,V5_l] at hv
 repeat (refine T.seq ?_)
 refine TL.call rfl (store_c _ _ _ _ _ (by omega) (by omega) (by omega) (by omega) (by omega) _) rfl ?_
 rintro _ w5 ⟨rfl,hg5⟩
 rw [hv]
 repeat (first|refine TL.nil ?_|refine thenQ_normal ?_|(refine TL.isStore ?_;(refine TL.storeWh rfl rfl yB (by exact rfl) (by exact rfl) (by exact rfl) ?_;intro w' hu hbk hsz))|refine T.ret ?_)
 exact retC rfl (load_whole (by assumption) rfl) ⟨_,rfl,rfl,yG⟩
end Go.Proofs.YtoldjgmcoekchaaGreatDoor
namespace Go.Proofs.YtoldjgmcoekchaaGreatDoor
open Go Go.RowKit Go.V
def addw (x0 x1 x2 x3 x4 y0 y1 y2 y3 y4:Nat):Nat→List Value
 | 0=>[W1 (x0),W1 (x1),W1 (x2),W1 (x3),W1 (x4)]
 | 1=>[W1 (x0+y0),W1 (x1),W1 (x2),W1 (x3),W1 (x4)]
 | 2=>[W1 (x0+y0),W1 (x1+y1),W1 (x2),W1 (x3),W1 (x4)]
 | 3=>[W1 (x0+y0),W1 (x1+y1),W1 (x2+y2),W1 (x3),W1 (x4)]
 | 4=>[W1 (x0+y0),W1 (x1+y1),W1 (x2+y2),W1 (x3+y3),W1 (x4)]
 | _=>[W1 (x0+y0),W1 (x1+y1),W1 (x2+y2),W1 (x3+y3),W1 (x4+y4)]
def subw (x0 x1 x2 x3 x4 y0 y1 y2 y3 y4:Nat):Nat→List Value
 | 0=>[W1 (x0),W1 (x1),W1 (x2),W1 (x3),W1 (x4)]
 | 1=>[W1 (x0+(9007199254740916-y0)),W1 (x1),W1 (x2),W1 (x3),W1 (x4)]
 | 2=>[W1 (x0+(9007199254740916-y0)),W1 (x1+(9007199254740988-y1)),W1 (x2),W1 (x3),W1 (x4)]
 | 3=>[W1 (x0+(9007199254740916-y0)),W1 (x1+(9007199254740988-y1)),W1 (x2+(9007199254740988-y2)),W1 (x3),W1 (x4)]
 | 4=>[W1 (x0+(9007199254740916-y0)),W1 (x1+(9007199254740988-y1)),W1 (x2+(9007199254740988-y2)),W1 (x3+(9007199254740988-y3)),W1 (x4)]
 | _=>[W1 (x0+(9007199254740916-y0)),W1 (x1+(9007199254740988-y1)),W1 (x2+(9007199254740988-y2)),W1 (x3+(9007199254740988-y3)),W1 (x4+(9007199254740988-y4))]
theorem add_c (N M:Nat) (hN:N<115792089237316195423570985008687907853269984665640564039457584007913129639936) (hM:M<115792089237316195423570985008687907853269984665640564039457584007913129639936) (w:World) :
  Calls Tryz.prog 250 #[num N,num M] w (Ret λ v w'=>v=num ((N+M)%p25519)∧Grow w w'):=by
 refine V.calls (args:=[_,_]) Tryz.func250 rfl Tryz.ntmps250 rfl rfl ?_
 have h0:=l0_lt N
 have h1:=l1_lt N
 have h2:=l2_lt N
 have h3:=l3_lt N
 have h4:=l4_lt hN
 have k0:=l0_lt M
 have k1:=l1_lt M
 have k2:=l2_lt M
 have k3:=l3_lt M
 have k4:=l4_lt hM
 have hx:=V5_l N
 have hy:=V5_l M
 repeat (first|refine TL.nil ?_|refine thenQ_normal ?_|refine T.seq ?_|refine T.region ?_|(refine TL.isBox ?_;(refine TL.box rfl rfl rfl ?_;intro bk w' hg hbk hsz hsz'))|(refine TL.isAlloc ?_;(refine TL.alloc rfl rfl ?_;intro bk w' hg hbk hsz hsz')))
 (apply T.any 6 [is _,is _,is _,is _,newB 406 [W1 0,W1 0,W1 0,W1 0,W1 0],newB 406 [W1 0,W1 0,W1 0,W1 0,W1 0]];(· kernel_rfl);(· ((repeat' (first|exact allDo_end|refine allDo_cons ?_ ?_));(iterate 4 (· ((refine does_mk0 rfl rfl rfl ?_);( intro wq _ _ hgq;(repeat (refine need_cons rfl rfl ?_;intro vq hvq;try (obtain rfl:=hvq)));(refine need_nil ?_));(repeat (first|(refine TL.isLoad ?_;refine TL.loadW rfl yB (by exact rfl) rfl ?_)|refine TL.nil ?_|(refine TL.call rfl (load_c _ (by assumption) _) rfl ?_;rintro _ _ ⟨rfl,hgc⟩)));exact one_end rfl yG rfl)));(iterate 2 (· (refine does_mk0 rfl rfl rfl ?_);( intro wq _ _ hgq;(repeat (refine need_cons rfl rfl ?_;intro vq hvq;try (obtain rfl:=hvq)));(refine need_nil ?_));(repeat (first|refine TL.nil ?_|(refine TL.isAlloc ?_;(refine TL.alloc rfl rfl ?_;intro bk w' hg hbk hsz hsz'))));exact one_end rfl yG ⟨_,rfl,by omega,by omega,by assumption⟩))));(rintro _ _ _ hgr hspan hdj;(repeat (refine need_cons rfl rfl ?_;intro vq hvq;try (obtain rfl:=hvq)));(refine need_nil ?_));obtain ⟨bn2,rfl,hl2,hh2,hnb2⟩:=hvq;obtain ⟨bn1,rfl,hl1,hh1,hnb1⟩:=hvq;(try simp only [Nat.reduceAdd] at hl1 hh1 hl2 hh2);have hd21:bn2≠bn1:=(by have hz:=hdj 5 4 (by omega) (by omega) (by omega);omega);have hsp:=hspan 4 (by omega);replace hl1:=Nat.le_trans hsp.1 hl1;replace hh1:=Nat.lt_of_lt_of_le hh1 hsp.2.2;clear hsp;have hsp:=hspan 5 (by omega);replace hl2:=Nat.le_trans hsp.1 hl2;replace hh2:=Nat.lt_of_lt_of_le hh2 hsp.2.2;clear hsp;clear hspan hdj)
 generalize l0 N=x0 at *
 generalize l1 N=x1 at *
 generalize l2 N=x2 at *
 generalize l3 N=x3 at *
 generalize l4 N=x4 at *
 generalize l0 M=y0 at *
 generalize l1 M=y1 at *
 generalize l2 M=y2 at *
 generalize l3 M=y3 at *
 generalize l4 M=y4 at *
 repeat (first|(refine TL.isMove ?_;refine TL.pure rfl rfl ?_)|refine TL.nil ?_|refine thenQ_normal ?_|refine T.seq ?_|refine T.region ?_|refine T.block ?_|(refine TL.isStore ?_;(refine TL.storeWh rfl rfl yB (by exact rfl) (by exact rfl) (by exact rfl) ?_;intro w' hu hbk hsz)))
 have c1:Blk w' bn2 406 [W1 y0,W1 y1,W1 y2,W1 y3,W1 y4]:=by exact yB
 have c0:Blk w' bn1 406 (addw x0 x1 x2 x3 x4 y0 y1 y2 y3 y4 0):=by exact yB
 have cr:Blk w' bk 269 zeros:=by exact yB
 have hG:Grow w w':=by exact yG
 have hb1:=c0.lt
 have hb2:=c1.lt
 have hb3:=cr.lt
 have hbn1:bn1≠bk:=by omega
 have hbn2:bn2≠bk:=by omega
 refine T.loop (S:=Nat) (λ k=>[(12,.int .i64 (k:Int)),(6,.pointer (some ⟨bn2,0,none⟩)),(5,.pointer (some ⟨bn1,0,none⟩)),(4,.pointer (some ⟨bk,0,none⟩))]) (λ k v=>0≤k∧k≤5∧Blk v bn2 406 [W1 y0,W1 y1,W1 y2,W1 y3,W1 y4]∧Blk v bn1 406 (addw x0 x1 x2 x3 x4 y0 y1 y2 y3 y4 k)∧Blk v bk 269 zeros∧Grow w v) (λ k=>5-k) 0 ⟨rfl,rfl,rfl,rfl,trivial⟩ ⟨by omega,by omega,by assumption,by assumption,by assumption,by assumption⟩ ?_
 rintro k v ⟨hk1,hk,m1,m0,mr,hGv⟩
 obtain rfl|rfl|rfl|rfl|rfl|rfl:k=0∨k=1∨k=2∨k=3∨k=4∨k=5:=by omega
 ·refine T.weaken (e':=[(12,.int .i64 0),(6,_),(5,_),(4,_)]) ?_ ⟨rfl,rfl,rfl,rfl,trivial⟩
  replace m0:Blk v bn1 406 [W1 (x0),W1 (x1),W1 (x2),W1 (x3),W1 (x4)]:=m0
  have n0:=m0.lt
  have n1:=m1.lt
  have n2:=mr.lt
  repeat (first|(refine TL.isMove ?_;refine TL.pure rfl rfl ?_)|(refine TL.isAsg ?_;refine TL.pure rfl rfl ?_)|refine TL.nil ?_|refine thenQ_normal ?_|refine T.seq ?_|refine T.region ?_|refine T.block ?_|(refine TL.isBin ?_;refine TL.pure rfl rfl ?_)|refine T.cond_true rfl ?_|refine T.skip ?_)
  apply T.any 7 [is _,is _,is _,is _,is _,is _,is _];(· kernel_rfl);(· ((repeat' (first|exact allDo_end|refine allDo_cons ?_ ?_));(iterate 7 (· ((refine does_mk0 rfl rfl rfl ?_);( intro wq _ _ hgq;(repeat (refine need_cons rfl rfl ?_;intro vq hvq;try (obtain rfl:=hvq)));(refine need_nil ?_));(repeat (first|(refine TL.isMove ?_;refine TL.pure rfl rfl ?_)|refine TL.load1 rfl yM rfl ?_|(refine TL.isIndex ?_;refine TL.indexArr rfl rfl (by omega) rfl rfl ?_)|(refine TL.isAdd ?_;refine TL.addU rfl rfl rfl (by omega) rfl ?_)|refine TL.nil ?_));exact one_end rfl yG rfl)))));(rintro _ _ _ hgr _ _;(repeat (refine need_cons rfl rfl ?_;intro vq hvq;try (obtain rfl:=hvq)));(refine need_nil ?_))
  repeat (first|(refine TL.isMove ?_;refine TL.pure rfl rfl ?_)|(refine TL.isIndex ?_;refine TL.indexArr rfl rfl (by omega) rfl rfl ?_)|(refine TL.isAdd ?_;refine TL.addI rfl rfl (by omega) (by omega) rfl ?_)|refine TL.nil ?_|refine thenQ_normal ?_|refine T.region ?_|refine blockQ_normal ?_|(refine TL.isStore ?_;(refine TL.store1 rfl rfl yB (by exact rfl) (by exact rfl) (by exact rfl) ?_;intro w' hu hbk hsz)))
  exact loopQ_normal 1 ⟨rfl,rfl,rfl,rfl,trivial⟩ ⟨by omega,by omega,yB,by assumption,yB,yG⟩ (by omega)
 ·refine T.weaken (e':=[(12,.int .i64 1),(6,_),(5,_),(4,_)]) ?_ ⟨rfl,rfl,rfl,rfl,trivial⟩
  replace m0:Blk v bn1 406 [W1 (x0+y0),W1 (x1),W1 (x2),W1 (x3),W1 (x4)]:=m0
  have n0:=m0.lt
  have n1:=m1.lt
  have n2:=mr.lt
  repeat (first|(refine TL.isMove ?_;refine TL.pure rfl rfl ?_)|(refine TL.isAsg ?_;refine TL.pure rfl rfl ?_)|refine TL.nil ?_|refine thenQ_normal ?_|refine T.seq ?_|refine T.region ?_|refine T.block ?_|(refine TL.isBin ?_;refine TL.pure rfl rfl ?_)|refine T.cond_true rfl ?_|refine T.skip ?_)
  apply T.any 7 [is _,is _,is _,is _,is _,is _,is _];(· kernel_rfl);(· ((repeat' (first|exact allDo_end|refine allDo_cons ?_ ?_));(iterate 7 (· ((refine does_mk0 rfl rfl rfl ?_);( intro wq _ _ hgq;(repeat (refine need_cons rfl rfl ?_;intro vq hvq;try (obtain rfl:=hvq)));(refine need_nil ?_));(repeat (first|(refine TL.isMove ?_;refine TL.pure rfl rfl ?_)|refine TL.load1 rfl yM rfl ?_|(refine TL.isIndex ?_;refine TL.indexArr rfl rfl (by omega) rfl rfl ?_)|(refine TL.isAdd ?_;refine TL.addU rfl rfl rfl (by omega) rfl ?_)|refine TL.nil ?_));exact one_end rfl yG rfl)))));(rintro _ _ _ hgr _ _;(repeat (refine need_cons rfl rfl ?_;intro vq hvq;try (obtain rfl:=hvq)));(refine need_nil ?_))
  repeat (first|(refine TL.isMove ?_;refine TL.pure rfl rfl ?_)|(refine TL.isIndex ?_;refine TL.indexArr rfl rfl (by omega) rfl rfl ?_)|(refine TL.isAdd ?_;refine TL.addI rfl rfl (by omega) (by omega) rfl ?_)|refine TL.nil ?_|refine thenQ_normal ?_|refine T.region ?_|refine blockQ_normal ?_|(refine TL.isStore ?_;(refine TL.store1 rfl rfl yB (by exact rfl) (by exact rfl) (by exact rfl) ?_;intro w' hu hbk hsz)))
  exact loopQ_normal 2 ⟨rfl,rfl,rfl,rfl,trivial⟩ ⟨by omega,by omega,yB,by assumption,yB,yG⟩ (by omega)
 ·refine T.weaken (e':=[(12,.int .i64 2),(6,_),(5,_),(4,_)]) ?_ ⟨rfl,rfl,rfl,rfl,trivial⟩
  replace m0:Blk v bn1 406 [W1 (x0+y0),W1 (x1+y1),W1 (x2),W1 (x3),W1 (x4)]:=m0
  have n0:=m0.lt
  have n1:=m1.lt
  have n2:=mr.lt
  repeat (first|(refine TL.isMove ?_;refine TL.pure rfl rfl ?_)|(refine TL.isAsg ?_;refine TL.pure rfl rfl ?_)|refine TL.nil ?_|refine thenQ_normal ?_|refine T.seq ?_|refine T.region ?_|refine T.block ?_|(refine TL.isBin ?_;refine TL.pure rfl rfl ?_)|refine T.cond_true rfl ?_|refine T.skip ?_)
  apply T.any 7 [is _,is _,is _,is _,is _,is _,is _];(· kernel_rfl);(· ((repeat' (first|exact allDo_end|refine allDo_cons ?_ ?_));(iterate 7 (· ((refine does_mk0 rfl rfl rfl ?_);( intro wq _ _ hgq;(repeat (refine need_cons rfl rfl ?_;intro vq hvq;try (obtain rfl:=hvq)));(refine need_nil ?_));(repeat (first|(refine TL.isMove ?_;refine TL.pure rfl rfl ?_)|refine TL.load1 rfl yM rfl ?_|(refine TL.isIndex ?_;refine TL.indexArr rfl rfl (by omega) rfl rfl ?_)|(refine TL.isAdd ?_;refine TL.addU rfl rfl rfl (by omega) rfl ?_)|refine TL.nil ?_));exact one_end rfl yG rfl)))));(rintro _ _ _ hgr _ _;(repeat (refine need_cons rfl rfl ?_;intro vq hvq;try (obtain rfl:=hvq)));(refine need_nil ?_))
  repeat (first|(refine TL.isMove ?_;refine TL.pure rfl rfl ?_)|(refine TL.isIndex ?_;refine TL.indexArr rfl rfl (by omega) rfl rfl ?_)|(refine TL.isAdd ?_;refine TL.addI rfl rfl (by omega) (by omega) rfl ?_)|refine TL.nil ?_|refine thenQ_normal ?_|refine T.region ?_|refine blockQ_normal ?_|(refine TL.isStore ?_;(refine TL.store1 rfl rfl yB (by exact rfl) (by exact rfl) (by exact rfl) ?_;intro w' hu hbk hsz)))
  exact loopQ_normal 3 ⟨rfl,rfl,rfl,rfl,trivial⟩ ⟨by omega,by omega,yB,by assumption,yB,yG⟩ (by omega)
 ·refine T.weaken (e':=[(12,.int .i64 3),(6,_),(5,_),(4,_)]) ?_ ⟨rfl,rfl,rfl,rfl,trivial⟩
  replace m0:Blk v bn1 406 [W1 (x0+y0),W1 (x1+y1),W1 (x2+y2),W1 (x3),W1 (x4)]:=m0
  have n0:=m0.lt
  have n1:=m1.lt
  have n2:=mr.lt
  repeat (first|(refine TL.isMove ?_;refine TL.pure rfl rfl ?_)|(refine TL.isAsg ?_;refine TL.pure rfl rfl ?_)|refine TL.nil ?_|refine thenQ_normal ?_|refine T.seq ?_|refine T.region ?_|refine T.block ?_|(refine TL.isBin ?_;refine TL.pure rfl rfl ?_)|refine T.cond_true rfl ?_|refine T.skip ?_)
  apply T.any 7 [is _,is _,is _,is _,is _,is _,is _];(· kernel_rfl);(· ((repeat' (first|exact allDo_end|refine allDo_cons ?_ ?_));(iterate 7 (· ((refine does_mk0 rfl rfl rfl ?_);( intro wq _ _ hgq;(repeat (refine need_cons rfl rfl ?_;intro vq hvq;try (obtain rfl:=hvq)));(refine need_nil ?_));(repeat (first|(refine TL.isMove ?_;refine TL.pure rfl rfl ?_)|refine TL.load1 rfl yM rfl ?_|(refine TL.isIndex ?_;refine TL.indexArr rfl rfl (by omega) rfl rfl ?_)|(refine TL.isAdd ?_;refine TL.addU rfl rfl rfl (by omega) rfl ?_)|refine TL.nil ?_));exact one_end rfl yG rfl)))));(rintro _ _ _ hgr _ _;(repeat (refine need_cons rfl rfl ?_;intro vq hvq;try (obtain rfl:=hvq)));(refine need_nil ?_))
  repeat (first|(refine TL.isMove ?_;refine TL.pure rfl rfl ?_)|(refine TL.isIndex ?_;refine TL.indexArr rfl rfl (by omega) rfl rfl ?_)|(refine TL.isAdd ?_;refine TL.addI rfl rfl (by omega) (by omega) rfl ?_)|refine TL.nil ?_|refine thenQ_normal ?_|refine T.region ?_|refine blockQ_normal ?_|(refine TL.isStore ?_;(refine TL.store1 rfl rfl yB (by exact rfl) (by exact rfl) (by exact rfl) ?_;intro w' hu hbk hsz)))
  exact loopQ_normal 4 ⟨rfl,rfl,rfl,rfl,trivial⟩ ⟨by omega,by omega,yB,by assumption,yB,yG⟩ (by omega)
 ·refine T.weaken (e':=[(12,.int .i64 4),(6,_),(5,_),(4,_)]) ?_ ⟨rfl,rfl,rfl,rfl,trivial⟩
  replace m0:Blk v bn1 406 [W1 (x0+y0),W1 (x1+y1),W1 (x2+y2),W1 (x3+y3),W1 (x4)]:=m0
  have n0:=m0.lt
  have n1:=m1.lt
  have n2:=mr.lt
  repeat (first|(refine TL.isMove ?_;refine TL.pure rfl rfl ?_)|(refine TL.isAsg ?_;refine TL.pure rfl rfl ?_)|refine TL.nil ?_|refine thenQ_normal ?_|refine T.seq ?_|refine T.region ?_|refine T.block ?_|(refine TL.isBin ?_;refine TL.pure rfl rfl ?_)|refine T.cond_true rfl ?_|refine T.skip ?_)
  apply T.any 7 [is _,is _,is _,is _,is _,is _,is _];(· kernel_rfl);(· ((repeat' (first|exact allDo_end|refine allDo_cons ?_ ?_));(iterate 7 (· ((refine does_mk0 rfl rfl rfl ?_);( intro wq _ _ hgq;(repeat (refine need_cons rfl rfl ?_;intro vq hvq;try (obtain rfl:=hvq)));(refine need_nil ?_));(repeat (first|(refine TL.isMove ?_;refine TL.pure rfl rfl ?_)|refine TL.load1 rfl yM rfl ?_|(refine TL.isIndex ?_;refine TL.indexArr rfl rfl (by omega) rfl rfl ?_)|(refine TL.isAdd ?_;refine TL.addU rfl rfl rfl (by omega) rfl ?_)|refine TL.nil ?_));exact one_end rfl yG rfl)))));(rintro _ _ _ hgr _ _;(repeat (refine need_cons rfl rfl ?_;intro vq hvq;try (obtain rfl:=hvq)));(refine need_nil ?_))
  repeat (first|(refine TL.isMove ?_;refine TL.pure rfl rfl ?_)|(refine TL.isIndex ?_;refine TL.indexArr rfl rfl (by omega) rfl rfl ?_)|(refine TL.isAdd ?_;refine TL.addI rfl rfl (by omega) (by omega) rfl ?_)|refine TL.nil ?_|refine thenQ_normal ?_|refine T.region ?_|refine blockQ_normal ?_|(refine TL.isStore ?_;(refine TL.store1 rfl rfl yB (by exact rfl) (by exact rfl) (by exact rfl) ?_;intro w' hu hbk hsz)))
  exact loopQ_normal 5 ⟨rfl,rfl,rfl,rfl,trivial⟩ ⟨by omega,by omega,yB,by assumption,yB,yG⟩ (by omega)
 ·refine T.weaken (e':=[(12,.int .i64 5),(6,_),(5,_),(4,_)]) ?_ ⟨rfl,rfl,rfl,rfl,trivial⟩
  replace m0:Blk v bn1 406 [W1 (x0+y0),W1 (x1+y1),W1 (x2+y2),W1 (x3+y3),W1 (x4+y4)]:=m0
  have n0:=m0.lt
  have n1:=m1.lt
  have n2:=mr.lt
  repeat (first|(refine TL.isLoad ?_;refine TL.loadW rfl yB (by exact rfl) rfl ?_)|refine TL.nil ?_|refine thenQ_normal ?_|refine T.seq ?_|refine T.region ?_|(refine TL.isBin ?_;refine TL.pure rfl rfl ?_)|refine T.cond_false rfl ?_|refine T.exit ?_|refine thenQ_exit ?_|refine blockQ_hit ?_|refine loopQ_exit ?_)
  refine TL.call rfl (store_c _ _ _ _ _ (by omega) (by omega) (by omega) (by omega) (by omega) _) rfl ?_
  rintro _ w5 ⟨rfl,hg5⟩
  rw [V5_add,hx,hy]
  repeat (first|refine TL.nil ?_|refine thenQ_normal ?_|(refine TL.isStore ?_;(refine TL.storeWh rfl rfl yB (by exact rfl) (by exact rfl) (by exact rfl) ?_;intro w' hu hbk hsz))|refine T.ret ?_)
  exact retC rfl (load_whole (by assumption) rfl) ⟨_,rfl,rfl,yG⟩
theorem sub_c (N M:Nat) (hN:N<115792089237316195423570985008687907853269984665640564039457584007913129639936) (hM:M<115792089237316195423570985008687907853269984665640564039457584007913129639936) (w:World) :
  Calls Tryz.prog 248 #[num N,num M] w (Ret λ v w'=>v=num ((N+(p25519-M%p25519))%p25519)∧Grow w w'):=by
 refine V.calls (args:=[_,_]) Tryz.func248 rfl Tryz.ntmps248 rfl rfl ?_
 have h0:=l0_lt N
 have h1:=l1_lt N
 have h2:=l2_lt N
 have h3:=l3_lt N
 have h4:=l4_lt hN
 have k0:=l0_lt M
 have k1:=l1_lt M
 have k2:=l2_lt M
 have k3:=l3_lt M
 have k4:=l4_lt hM
 have hx:=V5_l N
 have hy:=V5_l M
 repeat (first|refine TL.nil ?_|refine thenQ_normal ?_|refine T.seq ?_|refine T.region ?_|(refine TL.isBox ?_;(refine TL.box rfl rfl rfl ?_;intro bk w' hg hbk hsz hsz'))|(refine TL.isAlloc ?_;(refine TL.alloc rfl rfl ?_;intro bk w' hg hbk hsz hsz')))
 (apply T.any 6 [is _,is _,is _,is _,newB 406 [W1 0,W1 0,W1 0,W1 0,W1 0],newB 406 [W1 0,W1 0,W1 0,W1 0,W1 0]];(· kernel_rfl);(· ((repeat' (first|exact allDo_end|refine allDo_cons ?_ ?_));(iterate 4 (· ((refine does_mk0 rfl rfl rfl ?_);( intro wq _ _ hgq;(repeat (refine need_cons rfl rfl ?_;intro vq hvq;try (obtain rfl:=hvq)));(refine need_nil ?_));(repeat (first|(refine TL.isLoad ?_;refine TL.loadW rfl yB (by exact rfl) rfl ?_)|refine TL.nil ?_|(refine TL.call rfl (load_c _ (by assumption) _) rfl ?_;rintro _ _ ⟨rfl,hgc⟩)));exact one_end rfl yG rfl)));(iterate 2 (· (refine does_mk0 rfl rfl rfl ?_);( intro wq _ _ hgq;(repeat (refine need_cons rfl rfl ?_;intro vq hvq;try (obtain rfl:=hvq)));(refine need_nil ?_));(repeat (first|refine TL.nil ?_|(refine TL.isAlloc ?_;(refine TL.alloc rfl rfl ?_;intro bk w' hg hbk hsz hsz'))));exact one_end rfl yG ⟨_,rfl,by omega,by omega,by assumption⟩))));(rintro _ _ _ hgr hspan hdj;(repeat (refine need_cons rfl rfl ?_;intro vq hvq;try (obtain rfl:=hvq)));(refine need_nil ?_));obtain ⟨bn2,rfl,hl2,hh2,hnb2⟩:=hvq;obtain ⟨bn1,rfl,hl1,hh1,hnb1⟩:=hvq;(try simp only [Nat.reduceAdd] at hl1 hh1 hl2 hh2);have hd21:bn2≠bn1:=(by have hz:=hdj 5 4 (by omega) (by omega) (by omega);omega);have hsp:=hspan 4 (by omega);replace hl1:=Nat.le_trans hsp.1 hl1;replace hh1:=Nat.lt_of_lt_of_le hh1 hsp.2.2;clear hsp;have hsp:=hspan 5 (by omega);replace hl2:=Nat.le_trans hsp.1 hl2;replace hh2:=Nat.lt_of_lt_of_le hh2 hsp.2.2;clear hsp;clear hspan hdj)
 generalize l0 N=x0 at *
 generalize l1 N=x1 at *
 generalize l2 N=x2 at *
 generalize l3 N=x3 at *
 generalize l4 N=x4 at *
 generalize l0 M=y0 at *
 generalize l1 M=y1 at *
 generalize l2 M=y2 at *
 generalize l3 M=y3 at *
 generalize l4 M=y4 at *
 repeat (first|(refine TL.isAsg ?_;refine TL.pure rfl rfl ?_)|refine TL.load1 rfl yM rfl ?_|(refine TL.isIndex ?_;refine TL.indexArr rfl rfl (by omega) rfl rfl ?_)|(refine TL.isAdd ?_;refine TL.addU rfl rfl rfl (by omega) rfl ?_)|(refine TL.isSub ?_;refine TL.subU rfl rfl rfl (by omega) (by omega) rfl ?_)|refine TL.nil ?_|refine thenQ_normal ?_|refine T.seq ?_|refine T.region ?_|refine T.block ?_|(refine TL.isStore ?_;first|(refine TL.store1 rfl rfl yB (by exact rfl) (by exact rfl) (by exact rfl) ?_;intro w' hu hbk hsz)|(refine TL.storeWh rfl rfl yB (by exact rfl) (by exact rfl) (by exact rfl) ?_;intro w' hu hbk hsz)))
 have c1:Blk w' bn2 406 [W1 y0,W1 y1,W1 y2,W1 y3,W1 y4]:=by exact yB
 have c0:Blk w' bn1 406 (subw x0 x1 x2 x3 x4 y0 y1 y2 y3 y4 1):=by assumption
 have cr:Blk w' bk 269 zeros:=by exact yB
 have hG:Grow w w':=by exact yG
 have hb1:=c0.lt
 have hb2:=c1.lt
 have hb3:=cr.lt
 have hbn1:bn1≠bk:=by omega
 have hbn2:bn2≠bk:=by omega
 refine T.loop (S:=Nat) (λ k=>[(7,.int .i64 (k:Int)),(6,.pointer (some ⟨bn2,0,none⟩)),(5,.pointer (some ⟨bn1,0,none⟩)),(4,.pointer (some ⟨bk,0,none⟩))]) (λ k v=>1≤k∧k≤5∧Blk v bn2 406 [W1 y0,W1 y1,W1 y2,W1 y3,W1 y4]∧Blk v bn1 406 (subw x0 x1 x2 x3 x4 y0 y1 y2 y3 y4 k)∧Blk v bk 269 zeros∧Grow w v) (λ k=>5-k) 1 ⟨rfl,rfl,rfl,rfl,trivial⟩ ⟨by omega,by omega,by assumption,by assumption,by assumption,by assumption⟩ ?_
 rintro k v ⟨hk1,hk,m1,m0,mr,hGv⟩
 obtain rfl|rfl|rfl|rfl|rfl:k=1∨k=2∨k=3∨k=4∨k=5:=by omega
 ·refine T.weaken (e':=[(7,.int .i64 1),(6,_),(5,_),(4,_)]) ?_ ⟨rfl,rfl,rfl,rfl,trivial⟩
  replace m0:Blk v bn1 406 [W1 (x0+(9007199254740916-y0)),W1 (x1),W1 (x2),W1 (x3),W1 (x4)]:=m0
  have n0:=m0.lt
  have n1:=m1.lt
  have n2:=mr.lt
  repeat (first|(refine TL.isMove ?_;refine TL.pure rfl rfl ?_)|refine TL.nil ?_|refine thenQ_normal ?_|refine T.seq ?_|refine T.region ?_|refine T.block ?_|(refine TL.isBin ?_;refine TL.pure rfl rfl ?_)|refine T.cond_true rfl ?_|refine T.skip ?_)
  apply T.any 8 [is _,is _,is _,is _,is _,is _,is _,is _];(· kernel_rfl);(· ((repeat' (first|exact allDo_end|refine allDo_cons ?_ ?_));(iterate 8 (· ((refine does_mk0 rfl rfl rfl ?_);( intro wq _ _ hgq;(repeat (refine need_cons rfl rfl ?_;intro vq hvq;try (obtain rfl:=hvq)));(refine need_nil ?_));(repeat (first|(refine TL.isMove ?_;refine TL.pure rfl rfl ?_)|refine TL.load1 rfl yM rfl ?_|(refine TL.isIndex ?_;refine TL.indexArr rfl rfl (by omega) rfl rfl ?_)|(refine TL.isAdd ?_;refine TL.addU rfl rfl rfl (by omega) rfl ?_)|(refine TL.isSub ?_;refine TL.subU rfl rfl rfl (by omega) (by omega) rfl ?_)|refine TL.nil ?_));exact one_end rfl yG rfl)))));(rintro _ _ _ hgr _ _;(repeat (refine need_cons rfl rfl ?_;intro vq hvq;try (obtain rfl:=hvq)));(refine need_nil ?_))
  repeat (first|(refine TL.isMove ?_;refine TL.pure rfl rfl ?_)|(refine TL.isAsg ?_;refine TL.pure rfl rfl ?_)|(refine TL.isIndex ?_;refine TL.indexArr rfl rfl (by omega) rfl rfl ?_)|(refine TL.isAdd ?_;refine TL.addI rfl rfl (by omega) (by omega) rfl ?_)|refine TL.nil ?_|refine thenQ_normal ?_|refine T.region ?_|refine blockQ_normal ?_|(refine TL.isStore ?_;(refine TL.store1 rfl rfl yB (by exact rfl) (by exact rfl) (by exact rfl) ?_;intro w' hu hbk hsz)))
  exact loopQ_normal 2 ⟨rfl,rfl,rfl,rfl,trivial⟩ ⟨by omega,by omega,yB,by assumption,yB,yG⟩ (by omega)
 ·refine T.weaken (e':=[(7,.int .i64 2),(6,_),(5,_),(4,_)]) ?_ ⟨rfl,rfl,rfl,rfl,trivial⟩
  replace m0:Blk v bn1 406 [W1 (x0+(9007199254740916-y0)),W1 (x1+(9007199254740988-y1)),W1 (x2),W1 (x3),W1 (x4)]:=m0
  have n0:=m0.lt
  have n1:=m1.lt
  have n2:=mr.lt
  repeat (first|(refine TL.isMove ?_;refine TL.pure rfl rfl ?_)|refine TL.nil ?_|refine thenQ_normal ?_|refine T.seq ?_|refine T.region ?_|refine T.block ?_|(refine TL.isBin ?_;refine TL.pure rfl rfl ?_)|refine T.cond_true rfl ?_|refine T.skip ?_)
  apply T.any 8 [is _,is _,is _,is _,is _,is _,is _,is _];(· kernel_rfl);(· ((repeat' (first|exact allDo_end|refine allDo_cons ?_ ?_));(iterate 8 (· ((refine does_mk0 rfl rfl rfl ?_);( intro wq _ _ hgq;(repeat (refine need_cons rfl rfl ?_;intro vq hvq;try (obtain rfl:=hvq)));(refine need_nil ?_));(repeat (first|(refine TL.isMove ?_;refine TL.pure rfl rfl ?_)|refine TL.load1 rfl yM rfl ?_|(refine TL.isIndex ?_;refine TL.indexArr rfl rfl (by omega) rfl rfl ?_)|(refine TL.isAdd ?_;refine TL.addU rfl rfl rfl (by omega) rfl ?_)|(refine TL.isSub ?_;refine TL.subU rfl rfl rfl (by omega) (by omega) rfl ?_)|refine TL.nil ?_));exact one_end rfl yG rfl)))));(rintro _ _ _ hgr _ _;(repeat (refine need_cons rfl rfl ?_;intro vq hvq;try (obtain rfl:=hvq)));(refine need_nil ?_))
  repeat (first|(refine TL.isMove ?_;refine TL.pure rfl rfl ?_)|(refine TL.isAsg ?_;refine TL.pure rfl rfl ?_)|(refine TL.isIndex ?_;refine TL.indexArr rfl rfl (by omega) rfl rfl ?_)|(refine TL.isAdd ?_;refine TL.addI rfl rfl (by omega) (by omega) rfl ?_)|refine TL.nil ?_|refine thenQ_normal ?_|refine T.region ?_|refine blockQ_normal ?_|(refine TL.isStore ?_;(refine TL.store1 rfl rfl yB (by exact rfl) (by exact rfl) (by exact rfl) ?_;intro w' hu hbk hsz)))
  exact loopQ_normal 3 ⟨rfl,rfl,rfl,rfl,trivial⟩ ⟨by omega,by omega,yB,by assumption,yB,yG⟩ (by omega)
 ·refine T.weaken (e':=[(7,.int .i64 3),(6,_),(5,_),(4,_)]) ?_ ⟨rfl,rfl,rfl,rfl,trivial⟩
  replace m0:Blk v bn1 406 [W1 (x0+(9007199254740916-y0)),W1 (x1+(9007199254740988-y1)),W1 (x2+(9007199254740988-y2)),W1 (x3),W1 (x4)]:=m0
  have n0:=m0.lt
  have n1:=m1.lt
  have n2:=mr.lt
  repeat (first|(refine TL.isMove ?_;refine TL.pure rfl rfl ?_)|refine TL.nil ?_|refine thenQ_normal ?_|refine T.seq ?_|refine T.region ?_|refine T.block ?_|(refine TL.isBin ?_;refine TL.pure rfl rfl ?_)|refine T.cond_true rfl ?_|refine T.skip ?_)
  apply T.any 8 [is _,is _,is _,is _,is _,is _,is _,is _];(· kernel_rfl);(· ((repeat' (first|exact allDo_end|refine allDo_cons ?_ ?_));(iterate 8 (· ((refine does_mk0 rfl rfl rfl ?_);( intro wq _ _ hgq;(repeat (refine need_cons rfl rfl ?_;intro vq hvq;try (obtain rfl:=hvq)));(refine need_nil ?_));(repeat (first|(refine TL.isMove ?_;refine TL.pure rfl rfl ?_)|refine TL.load1 rfl yM rfl ?_|(refine TL.isIndex ?_;refine TL.indexArr rfl rfl (by omega) rfl rfl ?_)|(refine TL.isAdd ?_;refine TL.addU rfl rfl rfl (by omega) rfl ?_)|(refine TL.isSub ?_;refine TL.subU rfl rfl rfl (by omega) (by omega) rfl ?_)|refine TL.nil ?_));exact one_end rfl yG rfl)))));(rintro _ _ _ hgr _ _;(repeat (refine need_cons rfl rfl ?_;intro vq hvq;try (obtain rfl:=hvq)));(refine need_nil ?_))
  repeat (first|(refine TL.isMove ?_;refine TL.pure rfl rfl ?_)|(refine TL.isAsg ?_;refine TL.pure rfl rfl ?_)|(refine TL.isIndex ?_;refine TL.indexArr rfl rfl (by omega) rfl rfl ?_)|(refine TL.isAdd ?_;refine TL.addI rfl rfl (by omega) (by omega) rfl ?_)|refine TL.nil ?_|refine thenQ_normal ?_|refine T.region ?_|refine blockQ_normal ?_|(refine TL.isStore ?_;(refine TL.store1 rfl rfl yB (by exact rfl) (by exact rfl) (by exact rfl) ?_;intro w' hu hbk hsz)))
  exact loopQ_normal 4 ⟨rfl,rfl,rfl,rfl,trivial⟩ ⟨by omega,by omega,yB,by assumption,yB,yG⟩ (by omega)
 ·refine T.weaken (e':=[(7,.int .i64 4),(6,_),(5,_),(4,_)]) ?_ ⟨rfl,rfl,rfl,rfl,trivial⟩
  replace m0:Blk v bn1 406 [W1 (x0+(9007199254740916-y0)),W1 (x1+(9007199254740988-y1)),W1 (x2+(9007199254740988-y2)),W1 (x3+(9007199254740988-y3)),W1 (x4)]:=m0
  have n0:=m0.lt
  have n1:=m1.lt
  have n2:=mr.lt
  repeat (first|(refine TL.isMove ?_;refine TL.pure rfl rfl ?_)|refine TL.nil ?_|refine thenQ_normal ?_|refine T.seq ?_|refine T.region ?_|refine T.block ?_|(refine TL.isBin ?_;refine TL.pure rfl rfl ?_)|refine T.cond_true rfl ?_|refine T.skip ?_)
  apply T.any 8 [is _,is _,is _,is _,is _,is _,is _,is _];(· kernel_rfl);(· ((repeat' (first|exact allDo_end|refine allDo_cons ?_ ?_));(iterate 8 (· ((refine does_mk0 rfl rfl rfl ?_);( intro wq _ _ hgq;(repeat (refine need_cons rfl rfl ?_;intro vq hvq;try (obtain rfl:=hvq)));(refine need_nil ?_));(repeat (first|(refine TL.isMove ?_;refine TL.pure rfl rfl ?_)|refine TL.load1 rfl yM rfl ?_|(refine TL.isIndex ?_;refine TL.indexArr rfl rfl (by omega) rfl rfl ?_)|(refine TL.isAdd ?_;refine TL.addU rfl rfl rfl (by omega) rfl ?_)|(refine TL.isSub ?_;refine TL.subU rfl rfl rfl (by omega) (by omega) rfl ?_)|refine TL.nil ?_));exact one_end rfl yG rfl)))));(rintro _ _ _ hgr _ _;(repeat (refine need_cons rfl rfl ?_;intro vq hvq;try (obtain rfl:=hvq)));(refine need_nil ?_))
  repeat (first|(refine TL.isMove ?_;refine TL.pure rfl rfl ?_)|(refine TL.isAsg ?_;refine TL.pure rfl rfl ?_)|(refine TL.isIndex ?_;refine TL.indexArr rfl rfl (by omega) rfl rfl ?_)|(refine TL.isAdd ?_;refine TL.addI rfl rfl (by omega) (by omega) rfl ?_)|refine TL.nil ?_|refine thenQ_normal ?_|refine T.region ?_|refine blockQ_normal ?_|(refine TL.isStore ?_;(refine TL.store1 rfl rfl yB (by exact rfl) (by exact rfl) (by exact rfl) ?_;intro w' hu hbk hsz)))
  exact loopQ_normal 5 ⟨rfl,rfl,rfl,rfl,trivial⟩ ⟨by omega,by omega,yB,by assumption,yB,yG⟩ (by omega)
 ·refine T.weaken (e':=[(7,.int .i64 5),(6,_),(5,_),(4,_)]) ?_ ⟨rfl,rfl,rfl,rfl,trivial⟩
  replace m0:Blk v bn1 406 [W1 (x0+(9007199254740916-y0)),W1 (x1+(9007199254740988-y1)),W1 (x2+(9007199254740988-y2)),W1 (x3+(9007199254740988-y3)),W1 (x4+(9007199254740988-y4))]:=m0
  have n0:=m0.lt
  have n1:=m1.lt
  have n2:=mr.lt
  repeat (first|(refine TL.isMove ?_;refine TL.pure rfl rfl ?_)|(refine TL.isLoad ?_;refine TL.loadW rfl yB (by exact rfl) rfl ?_)|refine TL.nil ?_|refine thenQ_normal ?_|refine T.seq ?_|refine T.region ?_|(refine TL.isBin ?_;refine TL.pure rfl rfl ?_)|refine T.cond_false rfl ?_|refine T.exit ?_|refine thenQ_exit ?_|refine blockQ_hit ?_|refine loopQ_exit ?_)
  refine TL.call rfl (store_c _ _ _ _ _ (by omega) (by omega) (by omega) (by omega) (by omega) _) rfl ?_
  rintro _ w5 ⟨rfl,hg5⟩
  rw [sub_mod hM (show V5 _ _ _ _ _+M=N+4*p25519 from by rw [← hy,V5_sub _ _ _ _ _ _ _ _ _ _ (by omega) (by omega) (by omega) (by omega) (by omega),hx])]
  repeat (first|refine TL.nil ?_|refine thenQ_normal ?_|(refine TL.isStore ?_;(refine TL.storeWh rfl rfl yB (by exact rfl) (by exact rfl) (by exact rfl) ?_;intro w' hu hbk hsz))|refine T.ret ?_)
  exact retC rfl (load_whole (by assumption) rfl) ⟨_,rfl,rfl,yG⟩
end Go.Proofs.YtoldjgmcoekchaaGreatDoor
namespace Go.Proofs.YtoldjgmcoekchaaGreatDoor
open Go Go.RowKit Go.V
abbrev qv (E:Nat):Value:=.agg #[W1 (q0 E),W1 (q1 E),W1 (q2 E),W1 (q3 E)]
theorem shifted_c (E:Nat) (w:World) :
  Calls Tryz.prog 380 #[qv E] w (Ret λ v w'=>v=qv (2*E)∧Grow w w'):=by
 refine V.calls (args:=[_]) Tryz.func380 rfl Tryz.ntmps380 rfl rfl ?_
 have h0:=q0_lt E
 have h1:=q1_lt E
 have h2:=q2_lt E
 have h3:=q3_lt E
 have e0:q0 E*2%18446744073709551616=q0 (2*E):=by unfold q0;omega
 have e1:q1 E*2%18446744073709551616+q0 E / 9223372036854775808=q1 (2*E):=by unfold q0 q1;omega
 have e2:q2 E*2%18446744073709551616+q1 E / 9223372036854775808=q2 (2*E):=by unfold q1 q2;omega
 have e3:q3 E*2%18446744073709551616+q2 E / 9223372036854775808=q3 (2*E):=by unfold q2 q3;omega
 repeat (first|(refine TL.isAsg ?_;refine TL.pure rfl rfl ?_)|refine TL.nil ?_|refine thenQ_normal ?_|refine T.seq ?_|refine T.region ?_|refine T.block ?_|(refine TL.isBox ?_;(refine TL.box rfl rfl rfl ?_;intro bk w' hg hbk hsz hsz'))|(refine TL.isAlloc ?_;(refine TL.alloc rfl rfl ?_;intro bk w' hg hbk hsz hsz')))
 rename_i b1 w1 g1 k1 s1 t1
 have hbn1:b1≠bk:=by omega
 have c1:Blk w' b1 336 [W1 (q0 E),W1 (q1 E),W1 (q2 E),W1 (q3 E)]:=by exact yB
 have c2:Blk w' bk 336 [W1 0,W1 0,W1 0,W1 0]:=hbk
 have hG:Grow w w':=by exact yG
 refine T.loop (S:=Nat) (λ k=>[(3,.int .i64 (((3-k:Nat):Nat):Int)),(2,.pointer (some ⟨bk,0,none⟩)),(1,.pointer (some ⟨b1,0,none⟩))])
  (λ k v=>k≤3∧Blk v b1 336 [W1 (q0 E),W1 (if 3≤k then q1 (2*E) else q1 E),W1 (if 2≤k then q2 (2*E) else q2 E),W1 (if 1≤k then q3 (2*E) else q3 E)]∧Blk v bk 336 [W1 0,W1 0,W1 0,W1 0]∧Grow w v) (λ k=>3-k) 0 ⟨rfl,rfl,rfl,trivial⟩ ⟨by omega,by assumption,by assumption,by assumption⟩ ?_
 rintro k v ⟨hk,m1,m2,hGv⟩
 have n1:=m1.lt
 have n2:=m2.lt
 obtain rfl|rfl|rfl|rfl:k=0∨k=1∨k=2∨k=3:=by omega
 ·refine T.weaken (e':=[(3,.int .i64 3),(2,_),(1,_)]) ?_ ⟨rfl,rfl,rfl,trivial⟩
  replace m1:Blk v b1 336 [W1 (q0 E),W1 (q1 E),W1 (q2 E),W1 (q3 E)]:=m1
  repeat (first|(refine TL.isMove ?_;refine TL.pure rfl rfl ?_)|refine TL.nil ?_|refine thenQ_normal ?_|refine T.seq ?_|refine T.region ?_|refine T.block ?_|(refine TL.isBin ?_;refine TL.pure rfl rfl ?_)|refine T.cond_true rfl ?_|refine T.skip ?_)
  apply T.any 11 [is _,is _,is _,is _,is _,is _,is _,is _,is _,is _,is _];(· kernel_rfl);(· ((repeat' (first|exact allDo_end|refine allDo_cons ?_ ?_));(iterate 11 (· ((refine does_mk0 rfl rfl rfl ?_);( intro wq _ _ hgq;(repeat (refine need_cons rfl rfl ?_;intro vq hvq;try (obtain rfl:=hvq)));(refine need_nil ?_));(repeat (first|(refine TL.isMove ?_;refine TL.pure rfl rfl ?_)|refine TL.load1 rfl yM rfl ?_|(refine TL.isIndex ?_;refine TL.indexArr rfl rfl (by omega) rfl rfl ?_)|(refine TL.isSub ?_;refine TL.subI rfl rfl (by omega) (by omega) rfl ?_)|refine TL.nil ?_|(refine TL.isOr ?_;refine TL.orL rfl rfl rfl rfl rfl (by omega) rfl rfl ?_)|refine TL.shlW rfl rfl rfl rfl rfl rfl ?_|refine TL.shrU rfl rfl rfl rfl rfl rfl ?_));exact one_end rfl yG rfl)))));(rintro _ _ _ hgr _ _;(repeat (refine need_cons rfl rfl ?_;intro vq hvq;try (obtain rfl:=hvq)));(refine need_nil ?_))
  rw [e3]
  repeat (first|(refine TL.isMove ?_;refine TL.pure rfl rfl ?_)|(refine TL.isAsg ?_;refine TL.pure rfl rfl ?_)|(refine TL.isIndex ?_;refine TL.indexArr rfl rfl (by omega) rfl rfl ?_)|(refine TL.isSub ?_;refine TL.subI rfl rfl (by omega) (by omega) rfl ?_)|refine TL.nil ?_|refine thenQ_normal ?_|refine T.region ?_|refine blockQ_normal ?_|(refine TL.isStore ?_;(refine TL.store1 rfl rfl yB (by exact rfl) (by exact rfl) (by exact rfl) ?_;intro w' hu hbk hsz)))
  exact loopQ_normal 1 ⟨rfl,rfl,rfl,trivial⟩ ⟨by omega,by assumption,yB,yG⟩ (by omega)
 ·refine T.weaken (e':=[(3,.int .i64 2),(2,_),(1,_)]) ?_ ⟨rfl,rfl,rfl,trivial⟩
  replace m1:Blk v b1 336 [W1 (q0 E),W1 (q1 E),W1 (q2 E),W1 (q3 (2*E))]:=m1
  repeat (first|(refine TL.isMove ?_;refine TL.pure rfl rfl ?_)|refine TL.nil ?_|refine thenQ_normal ?_|refine T.seq ?_|refine T.region ?_|refine T.block ?_|(refine TL.isBin ?_;refine TL.pure rfl rfl ?_)|refine T.cond_true rfl ?_|refine T.skip ?_)
  apply T.any 11 [is _,is _,is _,is _,is _,is _,is _,is _,is _,is _,is _];(· kernel_rfl);(· ((repeat' (first|exact allDo_end|refine allDo_cons ?_ ?_));(iterate 11 (· ((refine does_mk0 rfl rfl rfl ?_);( intro wq _ _ hgq;(repeat (refine need_cons rfl rfl ?_;intro vq hvq;try (obtain rfl:=hvq)));(refine need_nil ?_));(repeat (first|(refine TL.isMove ?_;refine TL.pure rfl rfl ?_)|refine TL.load1 rfl yM rfl ?_|(refine TL.isIndex ?_;refine TL.indexArr rfl rfl (by omega) rfl rfl ?_)|(refine TL.isSub ?_;refine TL.subI rfl rfl (by omega) (by omega) rfl ?_)|refine TL.nil ?_|(refine TL.isOr ?_;refine TL.orL rfl rfl rfl rfl rfl (by omega) rfl rfl ?_)|refine TL.shlW rfl rfl rfl rfl rfl rfl ?_|refine TL.shrU rfl rfl rfl rfl rfl rfl ?_));exact one_end rfl yG rfl)))));(rintro _ _ _ hgr _ _;(repeat (refine need_cons rfl rfl ?_;intro vq hvq;try (obtain rfl:=hvq)));(refine need_nil ?_))
  rw [e2]
  repeat (first|(refine TL.isMove ?_;refine TL.pure rfl rfl ?_)|(refine TL.isAsg ?_;refine TL.pure rfl rfl ?_)|(refine TL.isIndex ?_;refine TL.indexArr rfl rfl (by omega) rfl rfl ?_)|(refine TL.isSub ?_;refine TL.subI rfl rfl (by omega) (by omega) rfl ?_)|refine TL.nil ?_|refine thenQ_normal ?_|refine T.region ?_|refine blockQ_normal ?_|(refine TL.isStore ?_;(refine TL.store1 rfl rfl yB (by exact rfl) (by exact rfl) (by exact rfl) ?_;intro w' hu hbk hsz)))
  exact loopQ_normal 2 ⟨rfl,rfl,rfl,trivial⟩ ⟨by omega,by assumption,yB,yG⟩ (by omega)
 ·refine T.weaken (e':=[(3,.int .i64 1),(2,_),(1,_)]) ?_ ⟨rfl,rfl,rfl,trivial⟩
  replace m1:Blk v b1 336 [W1 (q0 E),W1 (q1 E),W1 (q2 (2*E)),W1 (q3 (2*E))]:=m1
  repeat (first|(refine TL.isMove ?_;refine TL.pure rfl rfl ?_)|refine TL.nil ?_|refine thenQ_normal ?_|refine T.seq ?_|refine T.region ?_|refine T.block ?_|(refine TL.isBin ?_;refine TL.pure rfl rfl ?_)|refine T.cond_true rfl ?_|refine T.skip ?_)
  apply T.any 11 [is _,is _,is _,is _,is _,is _,is _,is _,is _,is _,is _];(· kernel_rfl);(· ((repeat' (first|exact allDo_end|refine allDo_cons ?_ ?_));(iterate 11 (· ((refine does_mk0 rfl rfl rfl ?_);( intro wq _ _ hgq;(repeat (refine need_cons rfl rfl ?_;intro vq hvq;try (obtain rfl:=hvq)));(refine need_nil ?_));(repeat (first|(refine TL.isMove ?_;refine TL.pure rfl rfl ?_)|refine TL.load1 rfl yM rfl ?_|(refine TL.isIndex ?_;refine TL.indexArr rfl rfl (by omega) rfl rfl ?_)|(refine TL.isSub ?_;refine TL.subI rfl rfl (by omega) (by omega) rfl ?_)|refine TL.nil ?_|(refine TL.isOr ?_;refine TL.orL rfl rfl rfl rfl rfl (by omega) rfl rfl ?_)|refine TL.shlW rfl rfl rfl rfl rfl rfl ?_|refine TL.shrU rfl rfl rfl rfl rfl rfl ?_));exact one_end rfl yG rfl)))));(rintro _ _ _ hgr _ _;(repeat (refine need_cons rfl rfl ?_;intro vq hvq;try (obtain rfl:=hvq)));(refine need_nil ?_))
  rw [e1]
  repeat (first|(refine TL.isMove ?_;refine TL.pure rfl rfl ?_)|(refine TL.isAsg ?_;refine TL.pure rfl rfl ?_)|(refine TL.isIndex ?_;refine TL.indexArr rfl rfl (by omega) rfl rfl ?_)|(refine TL.isSub ?_;refine TL.subI rfl rfl (by omega) (by omega) rfl ?_)|refine TL.nil ?_|refine thenQ_normal ?_|refine T.region ?_|refine blockQ_normal ?_|(refine TL.isStore ?_;(refine TL.store1 rfl rfl yB (by exact rfl) (by exact rfl) (by exact rfl) ?_;intro w' hu hbk hsz)))
  exact loopQ_normal 3 ⟨rfl,rfl,rfl,trivial⟩ ⟨by omega,by assumption,yB,yG⟩ (by omega)
 ·refine T.weaken (e':=[(3,.int .i64 0),(2,_),(1,_)]) ?_ ⟨rfl,rfl,rfl,trivial⟩
  replace m1:Blk v b1 336 [W1 (q0 E),W1 (q1 (2*E)),W1 (q2 (2*E)),W1 (q3 (2*E))]:=m1
  repeat (first|(refine TL.isMove ?_;refine TL.pure rfl rfl ?_)|(refine TL.isLoad ?_;first|refine TL.load1 rfl yM rfl ?_|refine TL.loadW rfl yB (by exact rfl) rfl ?_)|(refine TL.isIndex ?_;refine TL.indexArr rfl rfl (by omega) rfl rfl ?_)|refine TL.nil ?_|refine thenQ_normal ?_|refine T.seq ?_|refine T.region ?_|refine TL.shlW rfl rfl rfl rfl rfl rfl ?_|(refine TL.isBin ?_;refine TL.pure rfl rfl ?_)|(refine TL.isStore ?_;first|(refine TL.store1 rfl rfl yB (by exact rfl) (by exact rfl) (by exact rfl) ?_;intro w' hu hbk hsz)|(refine TL.storeWh rfl rfl yB (by exact rfl) (by exact rfl) (by exact rfl) ?_;intro w' hu hbk hsz))|refine T.cond_false rfl ?_|refine T.ret ?_|refine T.exit ?_|refine thenQ_exit ?_|refine blockQ_hit ?_|refine loopQ_exit ?_)
  exact retC rfl (load_whole (by assumption) rfl) ⟨_,rfl,by simp only [e0,qv];rfl,yG⟩
def used (E k:Nat):Nat:=E / 2^(256-k)
theorem used_0 {E:Nat} (h:E<115792089237316195423570985008687907853269984665640564039457584007913129639936):used E 0=0:=by
 show E / 115792089237316195423570985008687907853269984665640564039457584007913129639936=0
 omega
theorem used_256 (E:Nat):used E 256=E:=by show E / 1=E;omega
theorem used_succ {E k:Nat} (hk:k<256):used E (k+1)=2*used E k+E*2^k / 57896044618658097711785492504343953926634992332820282019728792003956564819968%2:=by
 have h1:256-k=(255-k)+1:=by omega
 have h2:256-(k+1)=255-k:=by omega
 have h3:(57896044618658097711785492504343953926634992332820282019728792003956564819968:Nat)=2^(255-k)*2^k:=by
  rw [← Nat.pow_add,Nat.sub_add_cancel (by omega)]
 unfold used
 rw [h1,h2,h3,Nat.mul_div_mul_right _ _ (Nat.two_pow_pos k),Nat.pow_succ,← Nat.div_div_eq_div_mul,Nat.div_add_mod]
theorem bit_q3 (X:Nat):q3 X / 9223372036854775808=X / 57896044618658097711785492504343953926634992332820282019728792003956564819968%2:=by unfold q3;omega
theorem sq_mod {x y N f p:Nat} (h:x%p=N^f%p) (hy:y%p=x*x%p):y%p=N^(2*f)%p:=by
 rw [hy,Nat.mul_mod,h,← Nat.mul_mod,Nat.two_mul,Nat.pow_add]
theorem mul1_mod {x y N f p:Nat} (h:x%p=N^f%p) (hy:y%p=x*N%p):y%p=N^(f+1)%p:=by
 rw [hy,Nat.mul_mod,h,← Nat.mul_mod,Nat.pow_succ]
def pw (N E:Nat):Nat:=N^E%p25519
theorem pow_c (N E:Nat) (hN:N<115792089237316195423570985008687907853269984665640564039457584007913129639936) (hE:E<115792089237316195423570985008687907853269984665640564039457584007913129639936) (w:World) :
  Calls Tryz.prog 332 #[num N,num E] w (Ret λ v w'=>v=num (pw N E)∧Grow w w'):=by
 refine V.calls (args:=[_,_]) Tryz.func332 rfl Tryz.ntmps332 rfl rfl ?_
 have h0:=l0_lt N
 have h1:=l1_lt N
 have h2:=l2_lt N
 have h3:=l3_lt N
 have h4:=l4_lt hN
 have hx:=V5_l N
 repeat (first|refine TL.nil ?_|refine thenQ_normal ?_|refine T.seq ?_|refine T.region ?_|(refine TL.isBox ?_;(refine TL.box rfl rfl rfl ?_;intro bk w' hg hbk hsz hsz'))|(refine TL.isAlloc ?_;(refine TL.alloc rfl rfl ?_;intro bk w' hg hbk hsz hsz')))
 refine T.mono (Q:=λ x e' v=>∃ bn1 bn2 bn3,Sub [(4,.pointer (some ⟨bk,0,none⟩)),(5,.pointer (some ⟨bn1,0,none⟩)),(6,.pointer (some ⟨bn2,0,none⟩)),(7,.pointer (some ⟨bn3,0,none⟩))] e'∧(Blk v bn3 406 [W1 1,W1 0,W1 0,W1 0,W1 0]∧Blk v bn2 336 [W1 (q0 E),W1 (q1 E),W1 (q2 E),W1 (q3 E)]∧Blk v bn1 406 [W1 (l0 N),W1 (l1 N),W1 (l2 N),W1 (l3 N),W1 (l4 N)]∧Blk v bk 269 zeros∧Grow w v)∧(bn2≠bn1∧bn3≠bn1∧bn3≠bn2∧bn1≠bk∧bn2≠bk∧bn3≠bk)∧(w.heap.size≤bn1∧w.heap.size≤bn2∧w.heap.size≤bn3)∧x=.normal) ?_ ?_
 ·apply T.anyF 8 4 2 12 (.agg #[W1 1,W1 0,W1 0,W1 0,W1 0]) [is _,is _,is _,is _,is (.agg #[W1 1,W1 0,W1 0,W1 0,W1 0]),newB 406 [W1 0,W1 0,W1 0,W1 0,W1 0],newB 336 [W1 0,W1 0,W1 0,W1 0],newB 406 [W1 0,W1 0,W1 0,W1 0,W1 0]] (by kernel_rfl) rfl rfl
  ·(repeat' (first|exact allDo_end|refine allDo_cons ?_ ?_))
   iterate 5 (· ((refine does_mk0 rfl rfl rfl ?_);( intro wq _ _ hgq;(repeat (refine need_cons rfl rfl ?_;intro vq hvq;try (obtain rfl:=hvq)));(refine need_nil ?_));(repeat (first|(refine TL.isLoad ?_;refine TL.loadW rfl yB (by exact rfl) rfl ?_)|refine TL.nil ?_|refine TL.buildArr rfl rfl rfl ?_|(refine TL.call rfl (load_c _ (by assumption) _) rfl ?_;rintro _ _ ⟨rfl,hgc⟩)|(refine TL.call rfl (quarters_c _ _) rfl ?_;rintro _ _ ⟨rfl,hgc⟩)));exact one_end rfl yG rfl))
   iterate 3 (· ((refine does_mk0 rfl rfl rfl ?_);( intro wq _ _ hgq;(repeat (refine need_cons rfl rfl ?_;intro vq hvq;try (obtain rfl:=hvq)));(refine need_nil ?_));(repeat (first|refine TL.nil ?_|(refine TL.isAlloc ?_;(refine TL.alloc rfl rfl ?_;intro bk w' hg hbk hsz hsz'))));exact one_end rfl yG ⟨_,rfl,by omega,by omega,by assumption⟩))
  ·rintro v _ _ hgr hspan hdj
   ((repeat (refine need_cons rfl rfl ?_;intro vq hvq;try (obtain rfl:=hvq)));(refine need_nil ?_))
   obtain ⟨bn3,rfl,hl3,hh3,hnb3⟩:=hvq
   obtain ⟨bn2,rfl,hl2,hh2,hnb2⟩:=hvq
   obtain ⟨bn1,rfl,hl1,hh1,hnb1⟩:=hvq
   simp only [Nat.reduceAdd] at hl1 hh1 hl2 hh2 hl3 hh3
   have d21:bn2≠bn1:=by have hz:=hdj 6 5 (by omega) (by omega) (by omega) (by omega) (by omega);omega
   have d31:bn3≠bn1:=by have hz:=hdj 7 5 (by omega) (by omega) (by omega) (by omega) (by omega);omega
   have d32:bn3≠bn2:=by have hz:=hdj 7 6 (by omega) (by omega) (by omega) (by omega) (by omega);omega
   have s1:=hspan 5 (by omega) (by omega)
   have s2:=hspan 6 (by omega) (by omega)
   have s3:=hspan 7 (by omega) (by omega)
   have g1:bn1≠bk:=by omega
   have g2:bn2≠bk:=by omega
   have g3:bn3≠bk:=by omega
   refine ⟨by (repeat (first|refine TL.nil ?_|refine TL.buildArr rfl rfl rfl ?_));exact ⟨rfl,rfl⟩,?_,_,rfl,?_⟩
   ·repeat (first|refine TL.nil ?_|(refine TL.isStore ?_;(refine TL.storeWh rfl rfl yB (by exact rfl) (by exact rfl) (by exact rfl) ?_;intro w' hu hbk hsz)))
    exact ⟨bn1,bn2,bn3,⟨rfl,rfl,rfl,rfl,trivial⟩,⟨yB,yB,yB,yB,yG⟩,⟨d21,d31,d32,g1,g2,g3⟩,⟨by omega,by omega,by omega⟩,rfl⟩
   ·repeat (first|refine TL.nil ?_|(refine TL.isStore ?_;(refine TL.storeWh rfl rfl yB (by exact rfl) (by exact rfl) (by exact rfl) ?_;intro w' hu hbk hsz)))
    refine ⟨by (repeat (first|refine TL.nil ?_|refine TL.buildArr rfl rfl rfl ?_));exact ⟨rfl,rfl⟩,?_,_,rfl,?_⟩
    ·repeat (first|refine TL.nil ?_|(refine TL.isStore ?_;(refine TL.storeWh rfl rfl yB (by exact rfl) (by exact rfl) (by exact rfl) ?_;intro w' hu hbk hsz)))
     exact ⟨bn1,bn2,bn3,⟨rfl,rfl,rfl,rfl,trivial⟩,⟨yB,yB,yB,yB,yG⟩,⟨d21,d31,d32,g1,g2,g3⟩,⟨by omega,by omega,by omega⟩,rfl⟩
    ·repeat (first|refine TL.nil ?_|(refine TL.isStore ?_;(refine TL.storeWh rfl rfl yB (by exact rfl) (by exact rfl) (by exact rfl) ?_;intro w' hu hbk hsz)))
     refine ⟨by (repeat (first|refine TL.nil ?_|refine TL.buildArr rfl rfl rfl ?_));exact ⟨rfl,rfl⟩,?_⟩
     repeat (first|refine TL.nil ?_|(refine TL.isStore ?_;(refine TL.storeWh rfl rfl yB (by exact rfl) (by exact rfl) (by exact rfl) ?_;intro w' hu hbk hsz)))
     exact ⟨bn1,bn2,bn3,⟨rfl,rfl,rfl,rfl,trivial⟩,⟨yB,yB,yB,yB,yG⟩,⟨d21,d31,d32,g1,g2,g3⟩,⟨by omega,by omega,by omega⟩,rfl⟩
 rintro x e' w' ⟨bn1,bn2,bn3,hsub,⟨c3,c2,c1,cr,hG⟩,⟨d21,d31,d32,hb1,hb2,hb3⟩,⟨i1,i2,i3⟩,rfl⟩
 generalize l0 N=x0 at *
 generalize l1 N=x1 at *
 generalize l2 N=x2 at *
 generalize l3 N=x3 at *
 generalize l4 N=x4 at *
 refine thenQ_normal ?_
 refine T.weaken (e':=[(4,_),(5,_),(6,_),(7,_)]) ?_ hsub
 repeat (first|(refine TL.isMove ?_;refine TL.pure rfl rfl ?_)|refine TL.nil ?_|refine thenQ_normal ?_|refine T.seq ?_|refine T.region ?_|refine T.block ?_)
 refine T.loop (S:=Nat) (λ k=>[(13,.int .i64 (k:Int)),(7,.pointer (some ⟨bn3,0,none⟩)),(6,.pointer (some ⟨bn2,0,none⟩)),(5,.pointer (some ⟨bn1,0,none⟩)),(4,.pointer (some ⟨bk,0,none⟩))])
  (λ k v=>k≤256∧(∃ r0 r1 r2 r3 r4,Blk v bn3 406 [W1 r0,W1 r1,W1 r2,W1 r3,W1 r4]∧(r0<4503599627370496∧r1<4503599627370496∧r2<4503599627370496∧r3<4503599627370496∧r4<4503599627370496)∧V5 r0 r1 r2 r3 r4%p25519=N^used E k%p25519)
   ∧ Blk v bn2 336 [W1 (q0 (E*2^k)),W1 (q1 (E*2^k)),W1 (q2 (E*2^k)),W1 (q3 (E*2^k))]∧Blk v bn1 406 [W1 x0,W1 x1,W1 x2,W1 x3,W1 x4]∧Blk v bk 269 zeros∧Grow w v) (λ k=>256-k) 0 ⟨rfl,rfl,rfl,rfl,rfl,trivial⟩
  ⟨by omega,⟨1,0,0,0,0,c3,by omega,by rw [used_0 hE];rfl⟩,by rw [Nat.pow_zero,Nat.mul_one];exact c2,c1,cr,hG⟩ ?_
 clear c3 c2 c1 cr hG
 rintro k v ⟨hk,⟨r0,r1,r2,r3,r4,m3,⟨e0,e1,e2,e3,e4⟩,hv⟩,m2,m1,mr,hG⟩
 have n1:=m1.lt
 have n2:=m2.lt
 have n3:=m3.lt
 have n4:=mr.lt
 rcases Nat.lt_or_ge k 256 with hlt|hge
 ·refine T.seq ?_
  refine T.region ?_
  refine TL.pure rfl rfl ?_
  refine TL.nil ?_
  refine thenQ_normal ?_
  refine T.seq ?_
  refine T.cond_yes rfl (by simp only [decide_eq_true_eq,decide_eq_false_iff_not];omega) ?_
  repeat (first|refine thenQ_normal ?_|refine T.seq ?_|refine T.region ?_|refine T.block ?_|refine T.skip ?_)
  refine TL.call rfl (product_c _ _ _ _ _ _ _ _ _ _ _ _ _ m3 m3 (by omega) (by omega) (by omega) (by omega) (by omega) (by omega) (by omega) (by omega) (by omega) (by omega)) rfl ?_
  rintro _ v1 ⟨s0,s1,s2,s3,s4,rfl,⟨⟨d0,d1,d2,d3,d4⟩,hv1⟩,hg1⟩
  have hs:=sq_mod hv hv1
  repeat (first|refine TL.load1 rfl yM rfl ?_|(refine TL.isIndex ?_;refine TL.indexArr rfl rfl (by omega) rfl rfl ?_)|refine TL.nil ?_|refine thenQ_normal ?_|refine T.seq ?_|refine T.region ?_|refine TL.shrU rfl rfl rfl rfl rfl rfl ?_|(refine TL.isBin ?_;refine TL.pure rfl rfl ?_)|(refine TL.isStore ?_;(refine TL.storeWh rfl rfl yB (by exact rfl) (by exact rfl) (by exact rfl) ?_;intro w' hu hbk hsz)))
  have c3:Blk w' bn3 406 [W1 s0,W1 s1,W1 s2,W1 s3,W1 s4]:=hbk
  have c2:Blk w' bn2 336 [W1 (q0 (E*2^k)),W1 (q1 (E*2^k)),W1 (q2 (E*2^k)),W1 (q3 (E*2^k))]:=by exact yB
  have c1:Blk w' bn1 406 [W1 x0,W1 x1,W1 x2,W1 x3,W1 x4]:=by exact yB
  have cr:Blk w' bk 269 zeros:=by exact yB
  have cG:Grow w w':=by exact yG
  have o1:=c1.lt
  have o2:=c2.lt
  have o3:=c3.lt
  have o4:=cr.lt
  have hE2:E*2^(k+1)=2*(E*2^k):=by rw [Nat.pow_succ,← Nat.mul_assoc,Nat.mul_comm]
  have hus:=used_succ (E:=E) hlt
  have hbit:=bit_q3 (E*2^k)
  rcases Nat.mod_two_eq_zero_or_one (E*2^k / 57896044618658097711785492504343953926634992332820282019728792003956564819968) with hb|hb
  ·rw [hb] at hus hbit
   refine T.cond_no rfl (by rw [hbit];rfl) ?_
   have ht:V5 s0 s1 s2 s3 s4%p25519=N^used E (k+1)%p25519:=by rw [hus];exact hs
   obtain ⟨t0,ht0⟩:∃ t,t=s0:=⟨_,rfl⟩
   obtain ⟨t1,ht1⟩:∃ t,t=s1:=⟨_,rfl⟩
   obtain ⟨t2,ht2⟩:∃ t,t=s2:=⟨_,rfl⟩
   obtain ⟨t3,ht3⟩:∃ t,t=s3:=⟨_,rfl⟩
   obtain ⟨t4,ht4⟩:∃ t,t=s4:=⟨_,rfl⟩
   subst ht0 ht1 ht2 ht3 ht4
   repeat (first|(refine TL.isLoad ?_;refine TL.loadW rfl yB (by exact rfl) rfl ?_)|refine thenQ_normal ?_|refine T.region ?_|refine T.skip ?_)
   refine TL.call rfl (shifted_c _ _) rfl ?_
   rintro _ v5 ⟨rfl,hg5⟩
   have f3:Blk v5 bn3 406 [W1 t0,W1 t1,W1 t2,W1 t3,W1 t4]:=by exact yB
   have f1:Blk v5 bn1 406 [W1 x0,W1 x1,W1 x2,W1 x3,W1 x4]:=by exact yB
   have f2:Blk v5 bn2 336 [W1 (q0 (E*2^k)),W1 (q1 (E*2^k)),W1 (q2 (E*2^k)),W1 (q3 (E*2^k))]:=by exact yB
   have fr:Blk v5 bk 269 zeros:=by exact yB
   have fG:Grow w v5:=by exact yG
   repeat (first|(refine TL.isMove ?_;refine TL.pure rfl rfl ?_)|(refine TL.isAdd ?_;refine TL.addI rfl rfl (by omega) (by omega) rfl ?_)|refine TL.nil ?_|refine thenQ_normal ?_|refine T.region ?_|refine blockQ_normal ?_|(refine TL.isStore ?_;(refine TL.storeWh rfl rfl yB (by exact rfl) (by exact rfl) (by exact rfl) ?_;intro w' hu hbk hsz)))
   exact loopQ_normal (k+1) ⟨rfl,rfl,rfl,rfl,rfl,trivial⟩ ⟨by omega,⟨t0,t1,t2,t3,t4,yB,by omega,ht⟩,by rw [hE2];exact hbk,yB,yB,yG⟩ (by omega)
  ·rw [hb] at hus hbit
   refine T.cond_yes rfl (by rw [hbit];rfl) ?_
   repeat (refine T.region ?_)
   refine TL.call rfl (product_c _ _ _ _ _ _ _ _ _ _ _ _ _ c3 c1 (by omega) (by omega) (by omega) (by omega) (by omega) (by omega) (by omega) (by omega) (by omega) (by omega)) rfl ?_
   rintro _ v3 ⟨t0,t1,t2,t3,t4,rfl,⟨⟨d0',d1',d2',d3',d4'⟩,hv3⟩,hg3⟩
   have ht:V5 t0 t1 t2 t3 t4%p25519=N^used E (k+1)%p25519:=by rw [hus];rw [hx] at hv3;exact mul1_mod hs hv3
   have c2':Blk v3 bn2 336 [W1 (q0 (E*2^k)),W1 (q1 (E*2^k)),W1 (q2 (E*2^k)),W1 (q3 (E*2^k))]:=by exact yB
   have c1':Blk v3 bn1 406 [W1 x0,W1 x1,W1 x2,W1 x3,W1 x4]:=by exact yB
   have cr':Blk v3 bk 269 zeros:=by exact yB
   have c3':Blk v3 bn3 406 [W1 s0,W1 s1,W1 s2,W1 s3,W1 s4]:=by exact yB
   have cG':Grow w v3:=by exact yG
   repeat (first|(refine TL.isLoad ?_;refine TL.loadW rfl yB (by exact rfl) rfl ?_)|refine TL.nil ?_|refine thenQ_normal ?_|refine T.region ?_|(refine TL.isStore ?_;(refine TL.storeWh rfl rfl yB (by exact rfl) (by exact rfl) (by exact rfl) ?_;intro w' hu hbk hsz)))
   refine TL.call rfl (shifted_c _ _) rfl ?_
   rintro _ v5 ⟨rfl,hg5⟩
   have f3:Blk v5 bn3 406 [W1 t0,W1 t1,W1 t2,W1 t3,W1 t4]:=by exact yB
   have f1:Blk v5 bn1 406 [W1 x0,W1 x1,W1 x2,W1 x3,W1 x4]:=by exact yB
   have f2:Blk v5 bn2 336 [W1 (q0 (E*2^k)),W1 (q1 (E*2^k)),W1 (q2 (E*2^k)),W1 (q3 (E*2^k))]:=by exact yB
   have fr:Blk v5 bk 269 zeros:=by exact yB
   have fG:Grow w v5:=by exact yG
   repeat (first|(refine TL.isMove ?_;refine TL.pure rfl rfl ?_)|(refine TL.isAdd ?_;refine TL.addI rfl rfl (by omega) (by omega) rfl ?_)|refine TL.nil ?_|refine thenQ_normal ?_|refine T.region ?_|refine blockQ_normal ?_|(refine TL.isStore ?_;(refine TL.storeWh rfl rfl yB (by exact rfl) (by exact rfl) (by exact rfl) ?_;intro w' hu hbk hsz)))
   exact loopQ_normal (k+1) ⟨rfl,rfl,rfl,rfl,rfl,trivial⟩ ⟨by omega,⟨t0,t1,t2,t3,t4,yB,by omega,ht⟩,by rw [hE2];exact hbk,yB,yB,yG⟩ (by omega)
 ·refine T.seq ?_
  refine T.region ?_
  refine TL.pure rfl rfl ?_
  refine TL.nil ?_
  refine thenQ_normal ?_
  refine T.seq ?_
  refine T.cond_no rfl (by simp only [decide_eq_true_eq,decide_eq_false_iff_not];omega) ?_
  repeat (first|(refine TL.isLoad ?_;refine TL.loadW rfl yB (by exact rfl) rfl ?_)|refine thenQ_normal ?_|refine T.seq ?_|refine T.region ?_|refine T.exit ?_|refine thenQ_exit ?_|refine blockQ_hit ?_|refine loopQ_exit ?_)
  refine TL.call rfl (store_c _ _ _ _ _ (by omega) (by omega) (by omega) (by omega) (by omega) _) rfl ?_
  rintro _ w5 ⟨rfl,hg5⟩
  have hk6:k=256:=by omega
  subst hk6
  rw [hv,used_256,show N^E%p25519=pw N E from rfl]
  repeat (first|refine TL.nil ?_|refine thenQ_normal ?_|(refine TL.isStore ?_;(refine TL.storeWh rfl rfl yB (by exact rfl) (by exact rfl) (by exact rfl) ?_;intro w' hu hbk hsz))|refine T.ret ?_)
  exact retC rfl (load_whole (by assumption) rfl) ⟨_,rfl,rfl,yG⟩
theorem pw_def (N E:Nat):pw N E=N^E%p25519:=rfl
attribute [irreducible] pw
end Go.Proofs.YtoldjgmcoekchaaGreatDoor
namespace Go.Proofs.YtoldjgmcoekchaaGreatDoor
open Go Go.V
def bitsN (i:Nat):Nat:=if i%2=0 then 26 else 25
theorem bitsN_le (i:Nat):25≤bitsN i∧bitsN i≤26:=by unfold bitsN;split<;>omega
theorem pow_bits (i:Nat):2^bitsN i=67108864∨2^bitsN i=33554432:=by unfold bitsN;split<;>simp
def gd (ws:List Nat) (i:Nat):Nat:=ws.getD i 0
abbrev I1 (x:Nat):Value:=.int .i64 (x:Int)
def wL (ws:List Nat):List Value:=ws.map I1
abbrev tenV (ws:List Nat):Value:=.agg (wL ws).toArray
theorem wL_at {ws:List Nat} {i:Nat} (h:i<ws.length):(wL ws)[i]? = some (I1 (gd ws i)):=by
 unfold wL gd
 rw [List.getElem?_map,List.getElem?_eq_getElem h,List.getD_eq_getElem?_getD,List.getElem?_eq_getElem h]
 rfl
theorem wL_set (ws:List Nat) (i x:Nat):(wL ws).set i (I1 x)=wL (ws.set i x):=by unfold wL;rw [List.map_set]
theorem wL_len (ws:List Nat):(wL ws).length=ws.length:=by unfold wL;simp
theorem wL_zero:wL [0,0,0,0,0,0,0,0,0,0]=[I1 0,I1 0,I1 0,I1 0,I1 0,I1 0,I1 0,I1 0,I1 0,I1 0]:=rfl
attribute [irreducible] wL
theorem gd_set {ws:List Nat} {i:Nat} (h:i<ws.length) (j x:Nat):gd (ws.set i x) j=if j=i then x else gd ws j:=by
 unfold gd
 rw [List.getD_eq_getElem?_getD,List.getD_eq_getElem?_getD,List.getElem?_set]
 by_cases hj:i=j
 ·subst hj;simp [h]
 ·rw [if_neg hj,if_neg (λ e=>hj e.symm)]
def cstep (i:Nat) (ws:List Nat):List Nat :=
 let c:=gd ws i / 2^bitsN i
 let ws1:=ws.set i (gd ws i-c*2^bitsN i)
 if i=9 then ws1.set 0 (gd ws1 0+19*c) else ws1.set (i+1) (gd ws1 (i+1)+c)
def cfrom:Nat→List Nat→List Nat
 | 0,ws=>ws
 | k+1,ws=>cfrom k (cstep (9-k) ws)
def carryL (ws:List Nat):List Nat:=cfrom 10 ws
theorem cfrom_succ {i:Nat} (h:i<10) (ws:List Nat):cfrom (10-i) ws=cfrom (10-(i+1)) (cstep i ws):=by
 rw [show 10-i=(9-i)+1 by omega,cfrom,show 9-(9-i)=i by omega,show 10-(i+1)=9-i by omega]
theorem divmod (a b:Nat) (hb:0<b):∃ c r,a / b=c∧a-c*b=r∧a=b*c+r∧r<b:=by
 refine ⟨a / b,a-a / b*b,rfl,rfl,?_,?_⟩
 ·have:=Nat.div_mul_le_self a b
  rw [Nat.mul_comm b];omega
 ·have h1:=Nat.div_add_mod a b
  have h2:=Nat.mod_lt a hb
  rw [Nat.mul_comm] at h1;omega
theorem ten {ws:List Nat} (h:ws.length=10):∃ w0 w1 w2 w3 w4 w5 w6 w7 w8 w9,ws=[w0,w1,w2,w3,w4,w5,w6,w7,w8,w9]:=by
 match ws,h with
 | [a,b,c,d,e,f,g,i,j,k],_=>exact ⟨_,_,_,_,_,_,_,_,_,_,rfl⟩
theorem carry_spec (w0 w1 w2 w3 w4 w5 w6 w7 w8 w9:Nat):∃ c0 c1 c2 c3 c4 c5 c6 c7 c8 c9 r0 r1 r2 r3 r4 r5 r6 r7 r8 r9,
  carryL [w0,w1,w2,w3,w4,w5,w6,w7,w8,w9]=[r0+19*c9,r1,r2,r3,r4,r5,r6,r7,r8,r9] ∧
  (w0=67108864*c0+r0∧w1+c0=33554432*c1+r1∧w2+c1=67108864*c2+r2∧w3+c2=33554432*c3+r3∧w4+c3=67108864*c4+r4∧w5+c4=33554432*c5+r5∧w6+c5=67108864*c6+r6∧w7+c6=33554432*c7+r7∧w8+c7=67108864*c8+r8∧w9+c8=33554432*c9+r9) ∧
  (r0<67108864∧r1<33554432∧r2<67108864∧r3<33554432∧r4<67108864∧r5<33554432∧r6<67108864∧r7<33554432∧r8<67108864∧r9<33554432):=by
 obtain ⟨c0,r0,d0,m0,e0,l0⟩:=divmod w0 67108864 (by decide)
 obtain ⟨c1,r1,d1,m1,e1,l1⟩:=divmod (w1+c0) 33554432 (by decide)
 obtain ⟨c2,r2,d2,m2,e2,l2⟩:=divmod (w2+c1) 67108864 (by decide)
 obtain ⟨c3,r3,d3,m3,e3,l3⟩:=divmod (w3+c2) 33554432 (by decide)
 obtain ⟨c4,r4,d4,m4,e4,l4⟩:=divmod (w4+c3) 67108864 (by decide)
 obtain ⟨c5,r5,d5,m5,e5,l5⟩:=divmod (w5+c4) 33554432 (by decide)
 obtain ⟨c6,r6,d6,m6,e6,l6⟩:=divmod (w6+c5) 67108864 (by decide)
 obtain ⟨c7,r7,d7,m7,e7,l7⟩:=divmod (w7+c6) 33554432 (by decide)
 obtain ⟨c8,r8,d8,m8,e8,l8⟩:=divmod (w8+c7) 67108864 (by decide)
 obtain ⟨c9,r9,d9,m9,e9,l9⟩:=divmod (w9+c8) 33554432 (by decide)
 refine ⟨c0,c1,c2,c3,c4,c5,c6,c7,c8,c9,r0,r1,r2,r3,r4,r5,r6,r7,r8,r9,?_,⟨e0,e1,e2,e3,e4,e5,e6,e7,e8,e9⟩,⟨l0,l1,l2,l3,l4,l5,l6,l7,l8,l9⟩⟩
 have s0:cstep 0 [w0,w1,w2,w3,w4,w5,w6,w7,w8,w9]=[r0,w1+c0,w2,w3,w4,w5,w6,w7,w8,w9]:=by rw [← m0,← d0];rfl
 have s1:cstep 1 [r0,w1+c0,w2,w3,w4,w5,w6,w7,w8,w9]=[r0,r1,w2+c1,w3,w4,w5,w6,w7,w8,w9]:=by rw [← m1,← d1];rfl
 have s2:cstep 2 [r0,r1,w2+c1,w3,w4,w5,w6,w7,w8,w9]=[r0,r1,r2,w3+c2,w4,w5,w6,w7,w8,w9]:=by rw [← m2,← d2];rfl
 have s3:cstep 3 [r0,r1,r2,w3+c2,w4,w5,w6,w7,w8,w9]=[r0,r1,r2,r3,w4+c3,w5,w6,w7,w8,w9]:=by rw [← m3,← d3];rfl
 have s4:cstep 4 [r0,r1,r2,r3,w4+c3,w5,w6,w7,w8,w9]=[r0,r1,r2,r3,r4,w5+c4,w6,w7,w8,w9]:=by rw [← m4,← d4];rfl
 have s5:cstep 5 [r0,r1,r2,r3,r4,w5+c4,w6,w7,w8,w9]=[r0,r1,r2,r3,r4,r5,w6+c5,w7,w8,w9]:=by rw [← m5,← d5];rfl
 have s6:cstep 6 [r0,r1,r2,r3,r4,r5,w6+c5,w7,w8,w9]=[r0,r1,r2,r3,r4,r5,r6,w7+c6,w8,w9]:=by rw [← m6,← d6];rfl
 have s7:cstep 7 [r0,r1,r2,r3,r4,r5,r6,w7+c6,w8,w9]=[r0,r1,r2,r3,r4,r5,r6,r7,w8+c7,w9]:=by rw [← m7,← d7];rfl
 have s8:cstep 8 [r0,r1,r2,r3,r4,r5,r6,r7,w8+c7,w9]=[r0,r1,r2,r3,r4,r5,r6,r7,r8,w9+c8]:=by rw [← m8,← d8];rfl
 have s9:cstep 9 [r0,r1,r2,r3,r4,r5,r6,r7,r8,w9+c8]=[r0+19*c9,r1,r2,r3,r4,r5,r6,r7,r8,r9]:=by rw [← m9,← d9];rfl
 show cfrom 10 _=_
 unfold cfrom;rw [s0]
 unfold cfrom;rw [s1]
 unfold cfrom;rw [s2]
 unfold cfrom;rw [s3]
 unfold cfrom;rw [s4]
 unfold cfrom;rw [s5]
 unfold cfrom;rw [s6]
 unfold cfrom;rw [s7]
 unfold cfrom;rw [s8]
 unfold cfrom;rw [s9]
 rfl
attribute [irreducible] carryL cfrom cstep
def V10:List Nat→Nat
 | [w0,w1,w2,w3,w4,w5,w6,w7,w8,w9]=>w0+67108864*w1+2251799813685248*w2+151115727451828646838272*w3+5070602400912917605986812821504*w4+340282366920938463463374607431768211456*w5+11417981541647679048466287755595961091061972992*w6+766247770432944429179173513575154591809369561091801088*w7+25711008708143844408671393477458601640355247900524685364822016*w8+1725436586697640946858688965569256363112777243042596638790631055949824*w9
 | _=>0
def Good:List Nat→Prop
 | [w0,w1,w2,w3,w4,w5,w6,w7,w8,w9]=>w0<67109120∧w1<33554432∧w2<67108864∧w3<33554432∧w4<67108864∧w5<33554432∧w6<67108864∧w7<33554432∧w8<67108864∧w9<33554432
 | _=>False
theorem Good.len {ws:List Nat} (h:Good ws):ws.length=10:=by
 unfold Good at h
 split at h
 ·rfl
 ·exact h.elim
theorem Good.gd {ws:List Nat} (h:Good ws) (i:Nat):gd ws i<67109120:=by
 obtain ⟨w0,w1,w2,w3,w4,w5,w6,w7,w8,w9,rfl⟩:=ten h.len
 unfold Good at h
 unfold Go.Proofs.YtoldjgmcoekchaaGreatDoor.gd
 rcases i with _|_|_|_|_|_|_|_|_|_|i<;>simp<;>omega
theorem kb {w c b c' r B K:Nat} (h:w+c=b*c'+r) (hw:w<B) (hc:c≤K) (hB:B+K≤b*(K+1)):c'≤K:=by
 have h1:b*c'<b*(K+1):=by omega
 have:=Nat.lt_of_mul_lt_mul_left h1
 omega
theorem carry_len {ws:List Nat} (h:ws.length=10):(carryL ws).length=10:=by
 obtain ⟨w0,w1,w2,w3,w4,w5,w6,w7,w8,w9,rfl⟩:=ten h
 obtain ⟨c0,c1,c2,c3,c4,c5,c6,c7,c8,c9,r0,r1,r2,r3,r4,r5,r6,r7,r8,r9,e,_⟩:=carry_spec w0 w1 w2 w3 w4 w5 w6 w7 w8 w9
 rw [e];rfl
theorem carry_val {ws:List Nat} (h:ws.length=10):V10 (carryL ws)%p25519=V10 ws%p25519:=by
 obtain ⟨w0,w1,w2,w3,w4,w5,w6,w7,w8,w9,rfl⟩:=ten h
 obtain ⟨c0,c1,c2,c3,c4,c5,c6,c7,c8,c9,r0,r1,r2,r3,r4,r5,r6,r7,r8,r9,e,⟨e0,e1,e2,e3,e4,e5,e6,e7,e8,e9⟩,_⟩:=carry_spec w0 w1 w2 w3 w4 w5 w6 w7 w8 w9
 rw [e]
 have:V10 [w0,w1,w2,w3,w4,w5,w6,w7,w8,w9]=V10 [r0+19*c9,r1,r2,r3,r4,r5,r6,r7,r8,r9]+p25519*c9:=by
  simp only [V10];unfold p25519;omega
 rw [this,Nat.add_mul_mod_self_left]
theorem carry_good {ws:List Nat} (h:ws.length=10) (hb:∀ i,gd ws i<268435456):Good (carryL ws):=by
 obtain ⟨w0,w1,w2,w3,w4,w5,w6,w7,w8,w9,rfl⟩:=ten h
 obtain ⟨c0,c1,c2,c3,c4,c5,c6,c7,c8,c9,r0,r1,r2,r3,r4,r5,r6,r7,r8,r9,e,⟨e0,e1,e2,e3,e4,e5,e6,e7,e8,e9⟩,l0,l1,l2,l3,l4,l5,l6,l7,l8,l9⟩:=carry_spec w0 w1 w2 w3 w4 w5 w6 w7 w8 w9
 rw [e]
 have b0:w0<268435456:=hb 0
 have b1:w1<268435456:=hb 1
 have b2:w2<268435456:=hb 2
 have b3:w3<268435456:=hb 3
 have b4:w4<268435456:=hb 4
 have b5:w5<268435456:=hb 5
 have b6:w6<268435456:=hb 6
 have b7:w7<268435456:=hb 7
 have b8:w8<268435456:=hb 8
 have b9:w9<268435456:=hb 9
 have k0:c0≤8:=kb (c:=0) (B:=268435456) e0 b0 (by decide) (by decide)
 have k1:c1≤8:=kb e1 b1 k0 (by decide)
 have k2:c2≤8:=kb e2 b2 k1 (by decide)
 have k3:c3≤8:=kb e3 b3 k2 (by decide)
 have k4:c4≤8:=kb e4 b4 k3 (by decide)
 have k5:c5≤8:=kb e5 b5 k4 (by decide)
 have k6:c6≤8:=kb e6 b6 k5 (by decide)
 have k7:c7≤8:=kb e7 b7 k6 (by decide)
 have k8:c8≤8:=kb e8 b8 k7 (by decide)
 have k9:c9≤8:=kb e9 b9 k8 (by decide)
 clear e0 e1 e2 e3 e4 e5 e6 e7 e8 e9
 unfold Good
 refine ⟨by omega,l1,l2,l3,l4,l5,l6,l7,l8,l9⟩
theorem carry2_good {ws:List Nat} (h:ws.length=10) (hb:∀ i,gd ws i<2305843009213693952):(∀ i,gd (carryL ws) i<4398046511104)∧Good (carryL (carryL ws)):=by
 obtain ⟨w0,w1,w2,w3,w4,w5,w6,w7,w8,w9,rfl⟩:=ten h
 obtain ⟨c0,c1,c2,c3,c4,c5,c6,c7,c8,c9,r0,r1,r2,r3,r4,r5,r6,r7,r8,r9,e,⟨e0,e1,e2,e3,e4,e5,e6,e7,e8,e9⟩,l0,l1,l2,l3,l4,l5,l6,l7,l8,l9⟩:=carry_spec w0 w1 w2 w3 w4 w5 w6 w7 w8 w9
 rw [e]
 have b0:w0<2305843009213693952:=hb 0
 have b1:w1<2305843009213693952:=hb 1
 have b2:w2<2305843009213693952:=hb 2
 have b3:w3<2305843009213693952:=hb 3
 have b4:w4<2305843009213693952:=hb 4
 have b5:w5<2305843009213693952:=hb 5
 have b6:w6<2305843009213693952:=hb 6
 have b7:w7<2305843009213693952:=hb 7
 have b8:w8<2305843009213693952:=hb 8
 have b9:w9<2305843009213693952:=hb 9
 have k0:c0≤137438953472:=kb (c:=0) (B:=2305843009213693952) e0 b0 (by decide) (by decide)
 have k1:c1≤137438953472:=kb e1 b1 k0 (by decide)
 have k2:c2≤137438953472:=kb e2 b2 k1 (by decide)
 have k3:c3≤137438953472:=kb e3 b3 k2 (by decide)
 have k4:c4≤137438953472:=kb e4 b4 k3 (by decide)
 have k5:c5≤137438953472:=kb e5 b5 k4 (by decide)
 have k6:c6≤137438953472:=kb e6 b6 k5 (by decide)
 have k7:c7≤137438953472:=kb e7 b7 k6 (by decide)
 have k8:c8≤137438953472:=kb e8 b8 k7 (by decide)
 have k9:c9≤137438953472:=kb e9 b9 k8 (by decide)
 generalize hx:r0+19*c9=x
 have hx2:x<4398046511104:=by omega
 clear e0 e1 e2 e3 e4 e5 e6 e7 e8 e9 hx
 constructor
 ·intro i
  unfold gd
  rcases i with _|_|_|_|_|_|_|_|_|_|i<;>simp<;>omega
 ·obtain ⟨d0,d1,d2,d3,d4,d5,d6,d7,d8,d9,s0,s1,s2,s3,s4,s5,s6,s7,s8,s9,e',⟨f0,f1,f2,f3,f4,f5,f6,f7,f8,f9⟩,m0,m1,m2,m3,m4,m5,m6,m7,m8,m9⟩:=carry_spec x r1 r2 r3 r4 r5 r6 r7 r8 r9
  rw [e']
  have q0:d0≤65536:=by clear f1 f2 f3 f4 f5 f6 f7 f8 f9;omega
  have q1:d1≤1:=by clear f2 f3 f4 f5 f6 f7 f8 f9;omega
  have q2:d2≤1:=kb f2 l2 q1 (by decide)
  have q3:d3≤1:=kb f3 l3 q2 (by decide)
  have q4:d4≤1:=kb f4 l4 q3 (by decide)
  have q5:d5≤1:=kb f5 l5 q4 (by decide)
  have q6:d6≤1:=kb f6 l6 q5 (by decide)
  have q7:d7≤1:=kb f7 l7 q6 (by decide)
  have q8:d8≤1:=kb f8 l8 q7 (by decide)
  have q9:d9≤1:=kb f9 l9 q8 (by decide)
  unfold Good
  clear f0 f1 f2 f3 f4 f5 f6 f7 f8 f9
  refine ⟨by omega,m1,m2,m3,m4,m5,m6,m7,m8,m9⟩
def Tight:List Nat→Prop
 | [w0,w1,w2,w3,w4,w5,w6,w7,w8,w9]=>w0<67108864∧w1<33554432∧w2<67108864∧w3<33554432∧w4<67108864∧w5<33554432∧w6<67108864∧w7<33554432∧w8<67108864∧w9<33554432
 | _=>False
theorem Tight.good {ws:List Nat} (h:Tight ws):Good ws:=by
 unfold Tight at h
 split at h
 ·unfold Good;exact ⟨by omega,h.2⟩
 ·exact h.elim
theorem kz {w c b c' r:Nat} (h:w+c=b*c'+r) (hc:c=0) (hw:w<b):c'=0:=by
 subst hc
 rcases Nat.eq_zero_or_pos c' with h1|h1
 ·exact h1
 ·have:=Nat.mul_le_mul_left b h1
  omega
theorem carry_tight {ws:List Nat} (h:Tight ws):carryL ws=ws:=by
 obtain ⟨w0,w1,w2,w3,w4,w5,w6,w7,w8,w9,rfl⟩:=ten h.good.len
 unfold Tight at h
 obtain ⟨c0,c1,c2,c3,c4,c5,c6,c7,c8,c9,r0,r1,r2,r3,r4,r5,r6,r7,r8,r9,e,⟨e0,e1,e2,e3,e4,e5,e6,e7,e8,e9⟩,l0,l1,l2,l3,l4,l5,l6,l7,l8,l9⟩:=carry_spec w0 w1 w2 w3 w4 w5 w6 w7 w8 w9
 obtain ⟨h0,h1,h2,h3,h4,h5,h6,h7,h8,h9⟩:=h
 have k0:c0=0:=kz (c:=0) e0 rfl h0
 have k1:c1=0:=kz e1 k0 h1
 have k2:c2=0:=kz e2 k1 h2
 have k3:c3=0:=kz e3 k2 h3
 have k4:c4=0:=kz e4 k3 h4
 have k5:c5=0:=kz e5 k4 h5
 have k6:c6=0:=kz e6 k5 h6
 have k7:c7=0:=kz e7 k6 h7
 have k8:c8=0:=kz e8 k7 h8
 have k9:c9=0:=kz e9 k8 h9
 subst k0 k1 k2 k3 k4 k5 k6 k7 k8 k9
 rw [e]
 simp only [List.cons.injEq,and_true]
 refine ⟨by omega,by omega,by omega,by omega,by omega,by omega,by omega,by omega,by omega,by omega⟩
theorem good_tight {ws:List Nat} (h:Good ws):Tight (carryL ws):=by
 obtain ⟨w0,w1,w2,w3,w4,w5,w6,w7,w8,w9,rfl⟩:=ten h.len
 unfold Good at h
 obtain ⟨c0,c1,c2,c3,c4,c5,c6,c7,c8,c9,r0,r1,r2,r3,r4,r5,r6,r7,r8,r9,e,⟨e0,e1,e2,e3,e4,e5,e6,e7,e8,e9⟩,l0,l1,l2,l3,l4,l5,l6,l7,l8,l9⟩:=carry_spec w0 w1 w2 w3 w4 w5 w6 w7 w8 w9
 obtain ⟨h0,h1,h2,h3,h4,h5,h6,h7,h8,h9⟩:=h
 rw [e]
 unfold Tight
 refine ⟨?_,l1,l2,l3,l4,l5,l6,l7,l8,l9⟩
 rcases Nat.eq_zero_or_pos c0 with k|k
 ·have k1:c1=0:=kz e1 k h1
  have k2:c2=0:=kz e2 k1 h2
  have k3:c3=0:=kz e3 k2 h3
  have k4:c4=0:=kz e4 k3 h4
  have k5:c5=0:=kz e5 k4 h5
  have k6:c6=0:=kz e6 k5 h6
  have k7:c7=0:=kz e7 k6 h7
  have k8:c8=0:=kz e8 k7 h8
  have k9:c9=0:=kz e9 k8 h9
  subst k1 k2 k3 k4 k5 k6 k7 k8 k9
  subst k
  clear e1 e2 e3 e4 e5 e6 e7 e8 e9
  omega
 ·have q0:c0≤1:=by clear e1 e2 e3 e4 e5 e6 e7 e8 e9;omega
  have q1:c1≤1:=kb e1 h1 q0 (by decide)
  have q2:c2≤1:=kb e2 h2 q1 (by decide)
  have q3:c3≤1:=kb e3 h3 q2 (by decide)
  have q4:c4≤1:=kb e4 h4 q3 (by decide)
  have q5:c5≤1:=kb e5 h5 q4 (by decide)
  have q6:c6≤1:=kb e6 h6 q5 (by decide)
  have q7:c7≤1:=kb e7 h7 q6 (by decide)
  have q8:c8≤1:=kb e8 h8 q7 (by decide)
  have q9:c9≤1:=kb e9 h9 q8 (by decide)
  clear e1 e2 e3 e4 e5 e6 e7 e8 e9
  omega
theorem carry4 {ws:List Nat} (h:Good ws):Tight (carryL (carryL (carryL (carryL ws))))∧V10 (carryL (carryL (carryL (carryL ws))))%p25519=V10 ws%p25519:=by
 have h1:=good_tight h
 rw [carry_tight h1,carry_tight h1,carry_tight h1]
 exact ⟨h1,carry_val h.len⟩
theorem tight_lt {ws:List Nat} (h:Tight ws):V10 ws<57896044618658097711785492504343953926634992332820282019728792003956564819968:=by
 obtain ⟨w0,w1,w2,w3,w4,w5,w6,w7,w8,w9,rfl⟩:=ten h.good.len
 unfold Tight at h
 simp only [V10]
 omega
end Go.Proofs.YtoldjgmcoekchaaGreatDoor
namespace Go.Proofs.YtoldjgmcoekchaaGreatDoor
open Go Go.RowKit Go.V
theorem bits_c (i:Nat) (hi:i<100) (w:World):Calls Tryz.prog 370 #[.int .i64 (i:Int)] w (Ret λ v w'=>v=.int .u64 (bitsN i:Int)∧w'=w):=by
 refine V.calls (args:=[_]) Tryz.func370 rfl Tryz.ntmps370 rfl rfl ?_
 repeat (first|(refine TL.isMove ?_;refine TL.pure rfl rfl ?_)|(refine TL.isAsg ?_;refine TL.pure rfl rfl ?_)|refine TL.nil ?_|refine thenQ_normal ?_|refine T.seq ?_|refine T.region ?_|(refine TL.isRem ?_;refine TL.remU rfl rfl (by omega) rfl ?_)|(refine TL.isBin ?_;refine TL.pure rfl rfl ?_))
 rcases Nat.mod_two_eq_zero_or_one i with h|h
 ·refine T.cond_yes rfl (by rw [h];rfl) ?_
  repeat (first|(refine TL.isAsg ?_;refine TL.pure rfl rfl ?_)|refine TL.nil ?_|refine thenQ_normal ?_|refine T.seq ?_|refine T.region ?_|refine T.ret ?_|refine thenQ_ret ?_)
  exact ret1 rfl ⟨_,rfl,by unfold bitsN;rw [if_pos h];rfl,rfl⟩
 ·refine T.cond_no rfl (by rw [h];rfl) ?_
  repeat (first|(refine TL.isAsg ?_;refine TL.pure rfl rfl ?_)|refine TL.nil ?_|refine thenQ_normal ?_|refine T.seq ?_|refine T.region ?_|refine T.ret ?_|refine T.skip ?_)
  exact ret1 rfl ⟨_,rfl,by unfold bitsN;rw [if_neg (by omega)];rfl,rfl⟩
def Bd (i:Nat) (ws:List Nat):Prop:=(∀ j,j≠i→gd ws j<4611686018427387904)∧gd ws i<4611687667694829568
theorem bd_step {i:Nat} {ws:List Nat} (hi:i<9) (hl:ws.length=10) (h:Bd i ws):Bd (i+1) (cstep i ws):=by
 obtain ⟨h1,h2⟩:=h
 have hp:=pow_bits i
 have e:cstep i ws=(ws.set i (gd ws i-gd ws i / 2^bitsN i*2^bitsN i)).set (i+1) (gd (ws.set i (gd ws i-gd ws i / 2^bitsN i*2^bitsN i)) (i+1)+gd ws i / 2^bitsN i):=by
  unfold cstep;rw [if_neg (by omega)]
 rw [e]
 have hc:gd ws i / 2^bitsN i<1649267441664:=by rcases hp with h|h<;>rw [h]<;>omega
 have hr:gd ws i-gd ws i / 2^bitsN i*2^bitsN i<4611686018427387904:=by rcases hp with h|h<;>rw [h]<;>omega
 have h3:=h1 (i+1) (by omega)
 refine ⟨λ j hj=>?_,?_⟩
 ·rw [gd_set (by simp;omega),if_neg hj,gd_set (by omega)]
  split
  ·exact hr
  ·exact h1 j (by omega)
 ·rw [gd_set (by simp;omega),if_pos rfl,gd_set (by omega),if_neg (by omega)]
  omega
theorem cstep_len (i:Nat) (ws:List Nat):(cstep i ws).length=ws.length:=by unfold cstep;simp only;split<;>simp
theorem wL_one (ws:List Nat):(wL ws).all Value.oneCell'=true:=by
 unfold wL
 rw [List.all_eq_true]
 intro v hv
 obtain ⟨x,_,rfl⟩:=List.mem_map.1 hv
 rfl
theorem carry_c (ws:List Nat) (hl:ws.length=10) (hb:∀ i,gd ws i<4611686018427387904) (w:World) :
  Calls Tryz.prog 371 #[tenV ws] w (Ret λ v w'=>v=tenV (carryL ws)∧Grow w w'):=by
 refine V.calls (args:=[_]) Tryz.func371 rfl Tryz.ntmps371 rfl rfl ?_
 repeat (first|(refine TL.isAsg ?_;refine TL.pure rfl rfl ?_)|refine TL.nil ?_|refine thenQ_normal ?_|refine T.seq ?_|refine T.region ?_|refine T.block ?_|(refine TL.isBox ?_;(refine TL.boxA rfl rfl ?_;intro bk w' hg hbk hsz hsz'))|(refine TL.isAlloc ?_;(refine TL.alloc rfl rfl ?_;intro bk w' hg hbk hsz hsz')))
 rename_i b1 w1 g1 k1 s1 t1
 have c1:Blk w' b1 391 (wL ws):=by exact yB
 have hne:b1≠bk:=by omega
 have hw1:w.heap.size≤b1:=by have:=g1.2;omega
 have hwk:w.heap.size≤bk:=by have:=g1.2;omega
 have hG:Grow w w':=by exact yG
 refine T.loop (S:=Nat×List Nat) (λ s=>[(3,.int .i64 (s.1:Int)),(1,.pointer (some ⟨b1,0,none⟩)),(2,.pointer (some ⟨bk,0,none⟩))])
  (λ s v=>s.1≤10∧s.2.length=10∧(s.1<10→Bd s.1 s.2)∧cfrom (10-s.1) s.2=carryL ws∧Blk v b1 391 (wL s.2)∧Blk v bk 391 [I1 0,I1 0,I1 0,I1 0,I1 0,I1 0,I1 0,I1 0,I1 0,I1 0]∧Grow w v) (λ s=>10-s.1) (0,ws) ⟨rfl,rfl,rfl,trivial⟩
  ⟨by omega,hl,λ _=>⟨λ j _=>hb j,Nat.lt_of_lt_of_le (hb 0) (by decide)⟩,by unfold carryL;rfl,c1,hbk,hG⟩ ?_
 clear c1 hG k1 g1 hg hbk hsz hsz' s1 t1
 rintro ⟨i,us⟩ v ⟨hi,hlu,hbd,hcf,m1,m2,hG⟩
 simp only at hi hlu hbd hcf m1
 refine T.weaken (e':=[(3,.int .i64 (i:Int)),(1,_),(2,_)]) ?_ ⟨rfl,rfl,rfl,trivial⟩
 have n1:=m1.lt
 have n2:=m2.lt
 rcases Nat.lt_or_ge i 10 with hlt|hge
 ·replace hbd:=hbd hlt
  have hp:=pow_bits i
  have hbl:=bitsN_le i
  have hgi:gd us i<4611687667694829568:=hbd.2
  have hc:gd us i / 2^bitsN i<1649267441664:=by rcases hp with h|h<;>rw [h]<;>omega
  have hcm:gd us i / 2^bitsN i*2^bitsN i≤gd us i:=Nat.div_mul_le_self _ _
  have hcm2:gd us i / 2^bitsN i*2^bitsN i<9223372036854775808:=by omega
  have hl1:∀ x,(us.set i x).length=10:=by intro x;simpa using hlu
  repeat (first|(refine TL.isMove ?_;refine TL.pure rfl rfl ?_)|refine TL.nil ?_|refine thenQ_normal ?_|refine T.seq ?_|refine T.region ?_|refine T.block ?_|(refine TL.isBin ?_;refine TL.pureT rfl yD rfl ?_)|refine T.cond_true rfl ?_|refine T.skip ?_)
  apply T.any 6 [is _,is _,is _,is _,is _,is _];(· kernel_rfl);(· ((repeat' (first|exact allDo_end|refine allDo_cons ?_ ?_));(iterate 6 (· ((refine does_mk0 rfl rfl rfl ?_);( intro wq _ _ hgq;(repeat (refine need_cons rfl rfl ?_;intro vq hvq;try (obtain rfl:=hvq)));(refine need_nil ?_));(repeat (first|(refine TL.isMove ?_;refine TL.pure rfl rfl ?_)|(refine TL.isIndex ?_;refine TL.indexA1 rfl rfl (by omega) rfl ?_)|refine TL.nil ?_|(refine TL.isShr ?_;refine TL.shrS rfl rfl (by (simp only [IntKind.bits];omega)) rfl ?_)|(refine TL.isLoad ?_;refine TL.load1 rfl (Blk.cell yB (wL_at (by omega))) rfl ?_)|(refine TL.isFn 370 ?_;refine TL.call rfl (bits_c i (by omega) _) rfl ?_;rintro _ _ ⟨rfl,rfl⟩)));exact one_end rfl yG rfl)))));(rintro _ _ _ hgr _ _;(repeat (refine need_cons rfl rfl ?_;intro vq hvq;try (obtain rfl:=hvq)));(refine need_nil ?_))
  repeat (first|(refine TL.isAsg ?_;refine TL.pure rfl rfl ?_)|refine TL.nil ?_|refine thenQ_normal ?_|refine T.seq ?_)
  apply T.any 9 [is _,is _,is _,is _,is _,is _,is _,is _,is _];(· kernel_rfl);(· ((repeat' (first|exact allDo_end|refine allDo_cons ?_ ?_));(iterate 9 (· ((refine does_mk0 rfl rfl rfl ?_);( intro wq _ _ hgq;(repeat (refine need_cons rfl rfl ?_;intro vq hvq;try (obtain rfl:=hvq)));(refine need_nil ?_));(repeat (first|(refine TL.isMove ?_;refine TL.pure rfl rfl ?_)|(refine TL.isIndex ?_;refine TL.indexA1 rfl rfl (by omega) rfl ?_)|(refine TL.isSub ?_;refine TL.subN rfl rfl (by omega) (by omega) rfl ?_)|refine TL.nil ?_|(refine TL.isShl ?_;refine TL.shlN rfl rfl (by omega) (by omega) rfl ?_)|(refine TL.isLoad ?_;refine TL.load1 rfl (Blk.cell yB (wL_at (by omega))) rfl ?_)|(refine TL.isFn 370 ?_;refine TL.call rfl (bits_c i (by omega) _) rfl ?_;rintro _ _ ⟨rfl,rfl⟩)));exact one_end rfl yG rfl)))));(rintro _ _ _ hgr _ _;(repeat (refine need_cons rfl rfl ?_;intro vq hvq;try (obtain rfl:=hvq)));(refine need_nil ?_))
  repeat ((refine TL.isIndex ?_;refine TL.indexA1 rfl rfl (by omega) rfl ?_))
  refine TL.storeS rfl rfl yB (by exact rfl) (by rw [wL_len];omega) ?_
  intro w2 hu2 hbk2 hsz2
  rw [wL_set] at hbk2
  have c2:Blk w2 bk 391 [I1 0,I1 0,I1 0,I1 0,I1 0,I1 0,I1 0,I1 0,I1 0,I1 0]:=by exact yB
  have hG2:Grow w w2:=by exact yG
  have o1:=hbk2.lt
  have o2:=c2.lt
  refine TL.nil ?_
  refine thenQ_normal ?_
  refine T.seq ?_
  refine T.region ?_
  refine TL.pure rfl rfl ?_
  refine TL.pure rfl rfl ?_
  refine TL.nil ?_
  refine thenQ_normal ?_
  have hlx:(us.set i (gd us i-gd us i / 2^bitsN i*2^bitsN i)).length=10:=hl1 _
  rcases Nat.lt_or_ge i 9 with h9|h9
  ·refine T.cond_no rfl (beq_eq_false_iff_ne.2 (by omega)) ?_
   have hg1:gd (us.set i (gd us i-gd us i / 2^bitsN i*2^bitsN i)) (i+1)<4611686018427387904:=by rw [gd_set (by omega),if_neg (by omega)];exact hbd.1 _ (by omega)
   repeat (first|(refine TL.isMove ?_;refine TL.pure rfl rfl ?_)|(refine TL.isIndex ?_;refine TL.indexA1 rfl rfl (by omega) rfl ?_)|(refine TL.isAdd ?_;refine TL.addN rfl rfl (by omega) rfl ?_)|refine T.region ?_|(refine TL.isLoad ?_;refine TL.load1 rfl (Blk.cell yB (wL_at (by omega))) rfl ?_))
   refine TL.storeS rfl rfl yB (by exact rfl) (by rw [wL_len];omega) ?_
   intro w3 hu3 hbk3 hsz3
   rw [wL_set] at hbk3
   have e3:cstep i us=(us.set i (gd us i-gd us i / 2^bitsN i*2^bitsN i)).set (i+1) (gd (us.set i (gd us i-gd us i / 2^bitsN i*2^bitsN i)) (i+1)+gd us i / 2^bitsN i):=by
    unfold cstep;rw [if_neg (by omega)]
   rw [← e3] at hbk3
   repeat (first|(refine TL.isMove ?_;refine TL.pure rfl rfl ?_)|(refine TL.isAsg ?_;refine TL.pure rfl rfl ?_)|(refine TL.isAdd ?_;refine TL.addN rfl rfl (by omega) rfl ?_)|refine TL.nil ?_|refine thenQ_normal ?_|refine T.region ?_|refine blockQ_normal ?_)
   exact loopQ_normal (i+1,cstep i us) ⟨rfl,rfl,rfl,trivial⟩ ⟨by omega,by rw [cstep_len];exact hlu,λ _=>bd_step h9 hlu hbd,by rw [← cfrom_succ (by omega)];exact hcf,hbk3,yB,yG⟩ (by simp only;omega)
  ·obtain rfl:i=9:=by omega
   refine T.cond_yes rfl rfl ?_
   have hg1:gd (us.set 9 (gd us 9-gd us 9 / 2^bitsN 9*2^bitsN 9)) 0<4611686018427387904:=by rw [gd_set (by omega),if_neg (by omega)];exact hbd.1 _ (by omega)
   repeat (first|(refine TL.isMove ?_;refine TL.pure rfl rfl ?_)|(refine TL.isIndex ?_;refine TL.indexA1 rfl rfl (by omega) rfl ?_)|(refine TL.isAdd ?_;refine TL.addN rfl rfl (by omega) rfl ?_)|(refine TL.isMul ?_;refine TL.mulN rfl rfl (by omega) rfl ?_)|refine T.region ?_|(refine TL.isLoad ?_;refine TL.load1 rfl (Blk.cell yB (wL_at (by omega))) rfl ?_))
   refine TL.storeS rfl rfl yB (by exact rfl) (by rw [wL_len];omega) ?_
   intro w3 hu3 hbk3 hsz3
   rw [wL_set] at hbk3
   have e3:cstep 9 us=(us.set 9 (gd us 9-gd us 9 / 2^bitsN 9*2^bitsN 9)).set 0 (gd (us.set 9 (gd us 9-gd us 9 / 2^bitsN 9*2^bitsN 9)) 0+19*(gd us 9 / 2^bitsN 9)):=by
    unfold cstep;rw [if_pos rfl]
   rw [← e3] at hbk3
   repeat (first|(refine TL.isMove ?_;refine TL.pure rfl rfl ?_)|(refine TL.isAsg ?_;refine TL.pure rfl rfl ?_)|(refine TL.isAdd ?_;refine TL.addN rfl rfl (by omega) rfl ?_)|refine TL.nil ?_|refine thenQ_normal ?_|refine T.region ?_|refine blockQ_normal ?_)
   exact loopQ_normal (10,cstep 9 us) ⟨rfl,rfl,rfl,trivial⟩ ⟨by simp only;omega,by simp only [cstep_len];exact hlu,λ h=>absurd h (by simp),by rw [← hcf];exact (cfrom_succ (by omega) us).symm,hbk3,yB,yG⟩ (by simp only;omega)
 ·obtain rfl:i=10:=by omega
  have hus:us=carryL ws:=by rw [← hcf];unfold cfrom;rfl
  subst hus
  have hwl:(wL (carryL ws)).length=10:=by rw [wL_len];exact carry_len hl
  repeat (first|(refine TL.isMove ?_;refine TL.pure rfl rfl ?_)|refine TL.nil ?_|refine thenQ_normal ?_|refine T.seq ?_|refine T.region ?_|(refine TL.isBin ?_;refine TL.pureF rfl yD rfl ?_)|refine T.cond_false rfl ?_|refine T.ret ?_|refine T.exit ?_|refine thenQ_exit ?_|refine blockQ_hit ?_|refine loopQ_exit ?_|(refine TL.isLoad ?_;refine TL.loadW rfl yB (by rw [hwl];rfl) rfl ?_)|(refine TL.isStore ?_;refine TL.storeWh rfl rfl yB (by rw [hwl];rfl) (by exact rfl) (wL_one _) ?_;intro w' hu hbk hsz))
  exact retC rfl (load_whole (by assumption) (by rw [hwl];rfl)) ⟨_,rfl,rfl,yG⟩
end Go.Proofs.YtoldjgmcoekchaaGreatDoor
namespace Go.Proofs.YtoldjgmcoekchaaGreatDoor
open Go Go.RowKit Go.V
end Go.Proofs.YtoldjgmcoekchaaGreatDoor
namespace Go.Proofs.YtoldjgmcoekchaaGreatDoor
open Go Go.RowKit Go.V
theorem b1_eq {x y:Nat} (h:x=y):some (B1 x)=some (B1 y):=by rw [h]
def byteN (N i:Nat):Nat:=N / 256^i%256
theorem byteN_lt (N i:Nat):byteN N i<256:=Nat.mod_lt _ (by decide)
theorem numL_at {N:Nat}:∀ {i:Nat},i<32→(numL N)[i]? = some (B1 (byteN N i))
 | 0,_=>b1_eq (show (N%18446744073709551616)%256=N / 1%256 by omega)
 | 1,_=>b1_eq (show (N%18446744073709551616) / 256%256=N / 256%256 by omega)
 | 2,_=>b1_eq (show (N%18446744073709551616) / 65536%256=N / 65536%256 by omega)
 | 3,_=>b1_eq (show (N%18446744073709551616) / 16777216%256=N / 16777216%256 by omega)
 | 4,_=>b1_eq (show (N%18446744073709551616) / 4294967296%256=N / 4294967296%256 by omega)
 | 5,_=>b1_eq (show (N%18446744073709551616) / 1099511627776%256=N / 1099511627776%256 by omega)
 | 6,_=>b1_eq (show (N%18446744073709551616) / 281474976710656%256=N / 281474976710656%256 by omega)
 | 7,_=>b1_eq (show (N%18446744073709551616) / 72057594037927936%256=N / 72057594037927936%256 by omega)
 | 8,_=>b1_eq (show (N / 18446744073709551616%18446744073709551616)%256=N / 18446744073709551616%256 by omega)
 | 9,_=>b1_eq (show (N / 18446744073709551616%18446744073709551616) / 256%256=N / 4722366482869645213696%256 by omega)
 | 10,_=>b1_eq (show (N / 18446744073709551616%18446744073709551616) / 65536%256=N / 1208925819614629174706176%256 by omega)
 | 11,_=>b1_eq (show (N / 18446744073709551616%18446744073709551616) / 16777216%256=N / 309485009821345068724781056%256 by omega)
 | 12,_=>b1_eq (show (N / 18446744073709551616%18446744073709551616) / 4294967296%256=N / 79228162514264337593543950336%256 by omega)
 | 13,_=>b1_eq (show (N / 18446744073709551616%18446744073709551616) / 1099511627776%256=N / 20282409603651670423947251286016%256 by omega)
 | 14,_=>b1_eq (show (N / 18446744073709551616%18446744073709551616) / 281474976710656%256=N / 5192296858534827628530496329220096%256 by omega)
 | 15,_=>b1_eq (show (N / 18446744073709551616%18446744073709551616) / 72057594037927936%256=N / 1329227995784915872903807060280344576%256 by omega)
 | 16,_=>b1_eq (show (N / 340282366920938463463374607431768211456%18446744073709551616)%256=N / 340282366920938463463374607431768211456%256 by omega)
 | 17,_=>b1_eq (show (N / 340282366920938463463374607431768211456%18446744073709551616) / 256%256=N / 87112285931760246646623899502532662132736%256 by omega)
 | 18,_=>b1_eq (show (N / 340282366920938463463374607431768211456%18446744073709551616) / 65536%256=N / 22300745198530623141535718272648361505980416%256 by omega)
 | 19,_=>b1_eq (show (N / 340282366920938463463374607431768211456%18446744073709551616) / 16777216%256=N / 5708990770823839524233143877797980545530986496%256 by omega)
 | 20,_=>b1_eq (show (N / 340282366920938463463374607431768211456%18446744073709551616) / 4294967296%256=N / 1461501637330902918203684832716283019655932542976%256 by omega)
 | 21,_=>b1_eq (show (N / 340282366920938463463374607431768211456%18446744073709551616) / 1099511627776%256=N / 374144419156711147060143317175368453031918731001856%256 by omega)
 | 22,_=>b1_eq (show (N / 340282366920938463463374607431768211456%18446744073709551616) / 281474976710656%256=N / 95780971304118053647396689196894323976171195136475136%256 by omega)
 | 23,_=>b1_eq (show (N / 340282366920938463463374607431768211456%18446744073709551616) / 72057594037927936%256=N / 24519928653854221733733552434404946937899825954937634816%256 by omega)
 | 24,_=>b1_eq (show (N / 6277101735386680763835789423207666416102355444464034512896%18446744073709551616)%256=N / 6277101735386680763835789423207666416102355444464034512896%256 by omega)
 | 25,_=>b1_eq (show (N / 6277101735386680763835789423207666416102355444464034512896%18446744073709551616) / 256%256=N / 1606938044258990275541962092341162602522202993782792835301376%256 by omega)
 | 26,_=>b1_eq (show (N / 6277101735386680763835789423207666416102355444464034512896%18446744073709551616) / 65536%256=N / 411376139330301510538742295639337626245683966408394965837152256%256 by omega)
 | 27,_=>b1_eq (show (N / 6277101735386680763835789423207666416102355444464034512896%18446744073709551616) / 16777216%256=N / 105312291668557186697918027683670432318895095400549111254310977536%256 by omega)
 | 28,_=>b1_eq (show (N / 6277101735386680763835789423207666416102355444464034512896%18446744073709551616) / 4294967296%256=N / 26959946667150639794667015087019630673637144422540572481103610249216%256 by omega)
 | 29,_=>b1_eq (show (N / 6277101735386680763835789423207666416102355444464034512896%18446744073709551616) / 1099511627776%256=N / 6901746346790563787434755862277025452451108972170386555162524223799296%256 by omega)
 | 30,_=>b1_eq (show (N / 6277101735386680763835789423207666416102355444464034512896%18446744073709551616) / 281474976710656%256=N / 1766847064778384329583297500742918515827483896875618958121606201292619776%256 by omega)
 | 31,_=>b1_eq (show (N / 6277101735386680763835789423207666416102355444464034512896%18446744073709551616) / 72057594037927936%256=N / 452312848583266388373324160190187140051835877600158453279131187530910662656%256 by omega)
 | _+32,h=>absurd h (by omega)
end Go.Proofs.YtoldjgmcoekchaaGreatDoor
namespace Go.Proofs.YtoldjgmcoekchaaGreatDoor
open Go Go.V
theorem numL_len (N:Nat):(numL N).length=32:=rfl
theorem numL_ext {l:List Value} {N:Nat} (hl:l.length=32) (h:∀ i,i<32→l[i]? = some (B1 (byteN N i))):l=numL N:=by
 refine List.ext_getElem? λ i=>?_
 rcases Nat.lt_or_ge i 32 with hi|hi
 ·rw [h i hi,numL_at hi]
 ·rw [List.getElem?_eq_none (by omega),List.getElem?_eq_none (by rw [numL_len];exact hi)]
theorem numL_set {N M t:Nat} {x:Nat} (ht:t<32) (hx:x=byteN M t) (h:∀ i,i<32→i≠t→byteN M i=byteN N i):(numL N).set t (B1 x)=numL M:=by
 refine numL_ext (by simp [numL_len]) λ i hi=>?_
 rw [List.getElem?_set]
 by_cases hit:t=i
 ·subst hit;rw [if_pos rfl,if_pos (by rw [numL_len];exact hi),hx]
 ·rw [if_neg hit,numL_at hi,h i hi (λ e=>hit e.symm)]
theorem two_256 (i:Nat):256^i=2^(8*i):=by rw [Nat.pow_mul]
theorem byte_bit (N t:Nat):byteN N (t / 8) / 2^(t%8)%2=N / 2^t%2:=by
 have e:2^t=256^(t / 8)*2^(t%8):=by rw [two_256,← Nat.pow_add,Nat.div_add_mod]
 rw [e,← Nat.div_div_eq_div_mul]
 unfold byteN
 generalize N / 256^(t / 8)=M
 have h8:t%8<8:=Nat.mod_lt _ (by decide)
 generalize t%8=r at *
 obtain rfl|rfl|rfl|rfl|rfl|rfl|rfl|rfl:r=0∨r=1∨r=2∨r=3∨r=4∨r=5∨r=6∨r=7:=by omega
 all_goals (simp only [Nat.reducePow];omega)
theorem pow8_lt {r:Nat} (h:r<8):2^r≤128:=by
 obtain rfl|rfl|rfl|rfl|rfl|rfl|rfl|rfl:r=0∨r=1∨r=2∨r=3∨r=4∨r=5∨r=6∨r=7:=by omega
 all_goals decide
theorem put_small {N t:Nat} (hN:N<2^t):byteN N (t / 8)<2^(t%8):=by
 have e:2^t=256^(t / 8)*2^(t%8):=by rw [two_256,← Nat.pow_add,Nat.div_add_mod]
 have h1:N / 256^(t / 8)<2^(t%8):=Nat.div_lt_of_lt_mul (by rw [← e];exact hN)
 have h2:=pow8_lt (Nat.mod_lt t (show 0<8 by decide))
 unfold byteN
 rw [Nat.mod_eq_of_lt (by omega)]
 exact h1
theorem put_bit {N t:Nat} (ht:t<256) (hN:N<2^t):(numL N).set (t / 8) (B1 (byteN N (t / 8)+2^(t%8)))=numL (N+2^t):=by
 have e:2^t=256^(t / 8)*2^(t%8):=by rw [two_256,← Nat.pow_add,Nat.div_add_mod]
 have hs:=put_small hN
 have h2:=pow8_lt (Nat.mod_lt t (show 0<8 by decide))
 refine numL_set (by omega) ?_ ?_
 ·unfold byteN at hs ⊢
  have h1:N / 256^(t / 8)<2^(t%8):=Nat.div_lt_of_lt_mul (by rw [← e];exact hN)
  have h3:(N+2^t) / 256^(t / 8)=N / 256^(t / 8)+2^(t%8):=by rw [e,Nat.add_mul_div_left _ _ (Nat.pow_pos (by decide))]
  rw [h3,Nat.mod_eq_of_lt (show N / 256^(t / 8)<256 by omega),Nat.mod_eq_of_lt (show N / 256^(t / 8)+2^(t%8)<256 by omega)]
 ·intro i _ hne
  unfold byteN
  rcases Nat.lt_or_ge i (t / 8) with hi|hi
  ·have e2:2^t=256^i*(256*2^(t-8*i-8)):=by
    rw [two_256,show 256=2^8 from rfl,← Nat.pow_add,← Nat.pow_add];congr 1;omega
   rw [e2,Nat.add_mul_div_left _ _ (Nat.pow_pos (by decide)),Nat.add_mul_mod_self_left]
  ·have h3:N+2^t<256^i:=by
    have:2^(t+1)≤256^i:=by rw [two_256];exact Nat.pow_le_pow_right (by decide) (by omega)
    rw [Nat.pow_succ] at this
    omega
   rw [Nat.div_eq_of_lt h3,Nat.div_eq_of_lt (by omega)]
def offN (i:Nat):Nat:=(51*i+1) / 2
theorem offN_succ (i:Nat):offN (i+1)=offN i+bitsN i:=by unfold offN bitsN;split<;>omega
def lenN (i:Nat):Nat:=if i=9 then 26 else bitsN i
theorem lenN_le {i:Nat} (h:i<10):offN i+lenN i≤256:=by
 unfold lenN offN bitsN;split<;>(try split)<;>omega
def opL (N i k:Nat):List Nat:=(List.range 10).map λ j=>if j<i then N / 2^offN j%2^lenN j else if j=i then N / 2^offN i%2^k else 0
theorem opL_len (N i k:Nat):(opL N i k).length=10:=by unfold opL;simp
theorem opL_gd (N i k j:Nat) (hj:j<10):gd (opL N i k) j=if j<i then N / 2^offN j%2^lenN j else if j=i then N / 2^offN i%2^k else 0:=by
 unfold gd opL
 rw [List.getD_eq_getElem?_getD,List.getElem?_map,List.getElem?_range hj]
 rfl
theorem ten_ext {l l':List Nat} (h:l.length=10) (h':l'.length=10) (hg:∀ i,i<10→gd l i=gd l' i):l=l':=by
 refine List.ext_getElem? λ i=>?_
 rcases Nat.lt_or_ge i 10 with hi|hi
 ·have:=hg i hi
  unfold gd at this
  rw [List.getD_eq_getElem?_getD,List.getD_eq_getElem?_getD,List.getElem?_eq_getElem (by omega),List.getElem?_eq_getElem (by omega)] at this
  rw [List.getElem?_eq_getElem (by omega),List.getElem?_eq_getElem (by omega)]
  exact congrArg some this
 ·rw [List.getElem?_eq_none (by omega),List.getElem?_eq_none (by omega)]
theorem opL_next (N i:Nat) (hi:i<10):opL N i (lenN i)=opL N (i+1) 0:=by
 refine ten_ext (opL_len _ _ _) (opL_len _ _ _) λ j hj=>?_
 rw [opL_gd _ _ _ _ hj,opL_gd _ _ _ _ hj]
 rcases Nat.lt_trichotomy j i with h|h|h
 ·rw [if_pos h,if_pos (by omega)]
 ·subst h;rw [if_neg (by omega),if_pos rfl,if_pos (by omega)]
 ·rw [if_neg (by omega),if_neg (by omega),if_neg (by omega)]
  split
  ·rw [Nat.pow_zero,Nat.mod_one]
  ·rfl
theorem opL_start (N:Nat):opL N 0 0=[0,0,0,0,0,0,0,0,0,0]:=by
 refine ten_ext (opL_len _ _ _) rfl λ j hj=>?_
 rw [opL_gd _ _ _ _ hj,if_neg (by omega)]
 have:gd [0,0,0,0,0,0,0,0,0,0] j=0:=by
  obtain rfl|rfl|rfl|rfl|rfl|rfl|rfl|rfl|rfl|rfl:j=0∨j=1∨j=2∨j=3∨j=4∨j=5∨j=6∨j=7∨j=8∨j=9:=by omega
  all_goals rfl
 rw [this]
 split
 ·rw [Nat.pow_zero,Nat.mod_one]
 ·rfl
theorem opL_at (N i k:Nat) (hi:i<10):gd (opL N i k) i=N / 2^offN i%2^k:=by rw [opL_gd _ _ _ _ hi,if_neg (by omega),if_pos rfl]
theorem mod_bit (X k:Nat):X%2^(k+1)=X%2^k+X / 2^k%2*2^k:=by
 rw [Nat.pow_succ,Nat.mod_mul,Nat.mul_comm]
theorem opL_bit (N i k b:Nat) (hi:i<10) (hb:N / 2^(offN i+k)%2=b):(opL N i k).set i (gd (opL N i k) i+b*2^k)=opL N i (k+1):=by
 refine ten_ext (by simp [opL_len]) (opL_len _ _ _) λ j hj=>?_
 rw [gd_set (by rw [opL_len];exact hi)]
 split
 ·rename_i h;subst h
  rw [opL_at _ _ _ hj,opL_at _ _ _ hj,mod_bit,Nat.div_div_eq_div_mul,← Nat.pow_add,hb]
 ·rename_i h
  rw [opL_gd _ _ _ _ hj,opL_gd _ _ _ _ hj,if_neg h,if_neg h]
theorem opL_zero (N i k:Nat) (hi:i<10) (hb:N / 2^(offN i+k)%2=0):opL N i k=opL N i (k+1):=by
 have:=opL_bit N i k 0 hi hb
 rw [← this]
 refine ten_ext (opL_len _ _ _) (by simp [opL_len]) λ j hj=>?_
 rw [gd_set (by rw [opL_len];exact hi)]
 split
 ·rename_i h;subst h;omega
 ·rfl
theorem opL_val {N:Nat} (hN:N<115792089237316195423570985008687907853269984665640564039457584007913129639936):V10 (opL N 10 0)=N:=by
 have e:opL N 10 0=[N / 1%67108864,N / 67108864%33554432,N / 2251799813685248%67108864,N / 151115727451828646838272%33554432,N / 5070602400912917605986812821504%67108864,N / 340282366920938463463374607431768211456%33554432,N / 11417981541647679048466287755595961091061972992%67108864,N / 766247770432944429179173513575154591809369561091801088%33554432,N / 25711008708143844408671393477458601640355247900524685364822016%67108864,N / 1725436586697640946858688965569256363112777243042596638790631055949824%67108864]:=rfl
 rw [e]
 simp only [V10]
 rw [show 1725436586697640946858688965569256363112777243042596638790631055949824=25711008708143844408671393477458601640355247900524685364822016*67108864 from rfl,← Nat.div_div_eq_div_mul,
  show 25711008708143844408671393477458601640355247900524685364822016=766247770432944429179173513575154591809369561091801088*33554432 from rfl,← Nat.div_div_eq_div_mul,
  show 766247770432944429179173513575154591809369561091801088=11417981541647679048466287755595961091061972992*67108864 from rfl,← Nat.div_div_eq_div_mul,
  show 11417981541647679048466287755595961091061972992=340282366920938463463374607431768211456*33554432 from rfl,← Nat.div_div_eq_div_mul,
  show 340282366920938463463374607431768211456=5070602400912917605986812821504*67108864 from rfl,← Nat.div_div_eq_div_mul,
  show 5070602400912917605986812821504=151115727451828646838272*33554432 from rfl,← Nat.div_div_eq_div_mul,
  show 151115727451828646838272=2251799813685248*67108864 from rfl,← Nat.div_div_eq_div_mul,
  show 2251799813685248=67108864*33554432 from rfl,← Nat.div_div_eq_div_mul]
 obtain ⟨n1,h1⟩:∃ n,n=N / 67108864:=⟨_,rfl⟩
 rw [← h1]
 obtain ⟨n2,h2⟩:∃ n,n=n1 / 33554432:=⟨_,rfl⟩
 rw [← h2]
 obtain ⟨n3,h3⟩:∃ n,n=n2 / 67108864:=⟨_,rfl⟩
 rw [← h3]
 obtain ⟨n4,h4⟩:∃ n,n=n3 / 33554432:=⟨_,rfl⟩
 rw [← h4]
 obtain ⟨n5,h5⟩:∃ n,n=n4 / 67108864:=⟨_,rfl⟩
 rw [← h5]
 obtain ⟨n6,h6⟩:∃ n,n=n5 / 33554432:=⟨_,rfl⟩
 rw [← h6]
 obtain ⟨n7,h7⟩:∃ n,n=n6 / 67108864:=⟨_,rfl⟩
 rw [← h7]
 obtain ⟨n8,h8⟩:∃ n,n=n7 / 33554432:=⟨_,rfl⟩
 rw [← h8]
 obtain ⟨n9,h9⟩:∃ n,n=n8 / 67108864:=⟨_,rfl⟩
 rw [← h9]
 omega
theorem opL_good (N:Nat):Good (carryL (opL N 10 0)):=by
 refine carry_good (opL_len _ _ _) λ i=>?_
 rcases Nat.lt_or_ge i 10 with hi|hi
 ·rw [opL_gd _ _ _ _ hi,if_pos hi]
  have h1:lenN i≤26:=by unfold lenN bitsN;split<;>(try split)<;>omega
  have h2:2^lenN i≤2^26:=Nat.pow_le_pow_right (by decide) h1
  have h3:=Nat.mod_lt (N / 2^offN i) (Nat.two_pow_pos (lenN i))
  omega
 ·unfold gd
  rw [List.getD_eq_getElem?_getD,List.getElem?_eq_none (by rw [opL_len];exact hi)]
  decide
end Go.Proofs.YtoldjgmcoekchaaGreatDoor
namespace Go.Proofs.YtoldjgmcoekchaaGreatDoor
open Go Go.RowKit Go.V
theorem bd_good {ws:List Nat} {B:Nat} (hB:B≤4611686018427387904) (h:∀ i,gd ws i<B):∀ i,gd ws i<4611686018427387904:=λ i=>Nat.lt_of_lt_of_le (h i) hB
theorem opL_lt (N i k j:Nat) (hk:k≤26):gd (opL N i k) j<67108865:=by
 rcases Nat.lt_or_ge j 10 with hj|hj
 ·rw [opL_gd _ _ _ _ hj]
  have h1:lenN j≤26:=by unfold lenN bitsN;split<;>(try split)<;>omega
  have h2:2^lenN j≤2^26:=Nat.pow_le_pow_right (by decide) h1
  have h3:=Nat.mod_lt (N / 2^offN j) (Nat.two_pow_pos (lenN j))
  have h4:2^k≤2^26:=Nat.pow_le_pow_right (by decide) hk
  have h5:=Nat.mod_lt (N / 2^offN i) (Nat.two_pow_pos k)
  split
  ·omega
  ·split<;>omega
 ·unfold gd
  rw [List.getD_eq_getElem?_getD,List.getElem?_eq_none (by rw [opL_len];exact hj)]
  decide
theorem open_c (N:Nat) (w:World) :
  Calls Tryz.prog 312 #[num N] w (Ret λ v w'=>v=tenV (carryL (opL N 10 0))∧Grow w w'):=by
 refine V.calls (args:=[_]) Tryz.func312 rfl Tryz.ntmps312 rfl rfl ?_
 repeat (first|(refine TL.isAsg ?_;refine TL.pure rfl rfl ?_)|refine TL.nil ?_|refine thenQ_normal ?_|refine T.seq ?_|refine T.region ?_|refine T.block ?_|(refine TL.isBox ?_;(refine TL.boxA rfl rfl ?_;intro bk w' hg hbk hsz hsz'))|(refine TL.isAlloc ?_;(refine TL.alloc rfl rfl ?_;intro bk w' hg hbk hsz hsz')))
 rename_i b1 w1 g1 k1 s1 t1 b2 w2 g2 k2 s2 t2
 have c1:Blk w' b1 269 (numL N):=by exact yB
 have c2:Blk w' b2 391 [I1 0,I1 0,I1 0,I1 0,I1 0,I1 0,I1 0,I1 0,I1 0,I1 0]:=by exact yB
 have c3:Blk w' bk 391 (wL (opL N 0 0)):=by rw [opL_start,wL_zero];exact hbk
 have hw3:w.heap.size≤bk:=by have:=g1.2;have:=g2.2;omega
 have hw2:w.heap.size≤b2:=by have:=g1.2;have:=g2.2;omega
 have ne12:b1≠bk:=by have:=g1.2;have:=g2.2;omega
 have ne23:b2≠bk:=by have:=g1.2;have:=g2.2;omega
 have hG:Grow w w':=by exact yG
 clear k1 k2 g1 g2 hg hbk s1 t1 s2 t2 hsz hsz'
 refine T.loop (S:=Nat) (λ i=>[(5,.int .i64 (i:Int)),(4,.int .i64 (offN i:Int)),(1,.pointer (some ⟨b1,0,none⟩)),(2,.pointer (some ⟨b2,0,none⟩)),(3,.pointer (some ⟨bk,0,none⟩))])
  (λ i v=>i≤10∧Blk v b1 269 (numL N)∧Blk v b2 391 [I1 0,I1 0,I1 0,I1 0,I1 0,I1 0,I1 0,I1 0,I1 0,I1 0]∧Blk v bk 391 (wL (opL N i 0))∧Grow w v) (λ i=>10-i) 0 ⟨rfl,rfl,rfl,rfl,rfl,trivial⟩
  ⟨by omega,c1,c2,c3,hG⟩ ?_
 clear c1 c2 c3 hG
 rintro i v ⟨hi,m1,m2,m3,hG⟩
 have n1:=m1.lt
 have n2:=m2.lt
 have n3:=m3.lt
 rcases Nat.lt_or_ge i 10 with hlt|hge
 ·have hbl:=bitsN_le i
  have hle:=lenN_le hlt
  have hll:lenN i≤26:=by unfold lenN;split<;>omega
  have hl9:i=9→lenN i=26:=λ h=>by unfold lenN;rw [if_pos h]
  have hl8:i≠9→lenN i=bitsN i:=λ h=>by unfold lenN;rw [if_neg h]
  rcases Nat.lt_or_ge i 9 with h9|h9
  ·replace hl8:=hl8 (by omega)
   clear hl9
   repeat (first|(refine TL.isMove ?_;refine TL.pure rfl rfl ?_)|(refine TL.isAsg ?_;refine TL.pure rfl rfl ?_)|refine TL.nil ?_|refine thenQ_normal ?_|refine T.seq ?_|refine T.region ?_|refine T.block ?_|(refine TL.isBin ?_;first|refine TL.pureT rfl yD rfl ?_|refine TL.pureF rfl yD rfl ?_)|(refine TL.isConv ?_;refine TL.convN rfl (by omega) rfl ?_)|refine T.cond_true rfl ?_|refine T.cond_false rfl ?_|refine T.skip ?_|(refine TL.isFn 370 ?_;refine TL.call rfl (bits_c i (by omega) _) rfl ?_;rintro _ _ ⟨rfl,rfl⟩))
   refine T.loop (S:=Nat) (λ k=>[(7,.int .i64 (k:Int)),(6,.int .i64 (lenN i:Int)),(5,.int .i64 (i:Int)),(4,.int .i64 (offN i:Int)),(1,.pointer (some ⟨b1,0,none⟩)),(2,.pointer (some ⟨b2,0,none⟩)),(3,.pointer (some ⟨bk,0,none⟩))])
    (λ k v=>k≤lenN i∧Blk v b1 269 (numL N)∧Blk v b2 391 [I1 0,I1 0,I1 0,I1 0,I1 0,I1 0,I1 0,I1 0,I1 0,I1 0]∧Blk v bk 391 (wL (opL N i k))∧Grow w v) (λ k=>lenN i-k) 0 ⟨rfl,by (rw [hl8];rfl),rfl,rfl,rfl,rfl,rfl,trivial⟩
    ⟨by omega,m1,m2,m3,hG⟩ ?_
   clear m1 m2 m3 hG n1 n2 n3
   rintro k v ⟨hk,m1,m2,m3,hG⟩
   have n1:=m1.lt
   have n2:=m2.lt
   have n3:=m3.lt
   rcases Nat.lt_or_ge k (lenN i) with hkl|hkl
   ·have h1k:1*2^k<9223372036854775808:=by
     have:2^k≤2^26:=Nat.pow_le_pow_right (by decide) (by omega)
     omega
    have hgl:=opL_lt N i k i (by omega)
    have hpk:2^k≤2^26:=Nat.pow_le_pow_right (by decide) (by omega)
    have hbb:=byte_bit N (offN i+k)
    have holl:=opL_len N i k
    rcases Nat.mod_two_eq_zero_or_one (N / 2^(offN i+k)) with hb|hb
    ·rw [hb] at hbb
     repeat (first|refine TL.guard_run rfl rfl rfl ?_|(refine TL.isMove ?_;refine TL.pure rfl rfl ?_)|(refine TL.isAsg ?_;refine TL.pure rfl rfl ?_)|(refine TL.isIndex ?_;refine TL.indexA1 rfl rfl (by omega) rfl ?_)|(refine TL.isAdd ?_;refine TL.addN rfl rfl (by omega) rfl ?_)|refine TL.nil ?_|refine thenQ_normal ?_|refine T.seq ?_|refine T.region ?_|refine T.block ?_|refine blockQ_normal ?_|(refine TL.isShr ?_;refine TL.shrS rfl rfl (by (simp only [IntKind.bits];omega)) rfl ?_)|(refine TL.isRem ?_;refine TL.remU rfl rfl (by omega) rfl ?_)|(refine TL.isQuo ?_;refine TL.quoN rfl rfl (by omega) (by omega) rfl ?_)|(refine TL.isBin ?_;first|refine TL.pureT rfl yD rfl ?_|refine TL.pureF rfl yD rfl ?_)|(refine TL.isConv ?_;refine TL.convU rfl rfl (by omega) rfl ?_)|refine T.cond_true rfl ?_|refine T.cond_false rfl ?_|refine T.skip ?_|refine TL.pure rfl rfl ?_|(refine TL.isLoad ?_;refine TL.load1 rfl (Blk.cell yB (numL_at (by omega))) rfl ?_))
     rw [opL_zero N i k hlt hb] at m3
     exact loopQ_normal (k+1) ⟨rfl,rfl,rfl,rfl,rfl,rfl,rfl,trivial⟩ ⟨by omega,yB,yB,yB,yG⟩ (by omega)
    ·rw [hb] at hbb
     repeat (first|refine TL.guard_run rfl rfl rfl ?_|(refine TL.isMove ?_;refine TL.pure rfl rfl ?_)|(refine TL.isIndex ?_;refine TL.indexA1 rfl rfl (by omega) rfl ?_)|(refine TL.isAdd ?_;refine TL.addN rfl rfl (by omega) rfl ?_)|refine TL.nil ?_|refine thenQ_normal ?_|refine T.seq ?_|refine T.region ?_|refine T.block ?_|(refine TL.isShl ?_;refine TL.shlN rfl rfl (by omega) (by omega) rfl ?_)|(refine TL.isShr ?_;refine TL.shrS rfl rfl (by (simp only [IntKind.bits];omega)) rfl ?_)|(refine TL.isRem ?_;refine TL.remU rfl rfl (by omega) rfl ?_)|(refine TL.isQuo ?_;refine TL.quoN rfl rfl (by omega) (by omega) rfl ?_)|(refine TL.isBin ?_;refine TL.pureT rfl yD rfl ?_)|(refine TL.isConv ?_;refine TL.convU rfl rfl (by omega) rfl ?_)|refine T.cond_true rfl ?_|refine T.skip ?_|refine TL.pure rfl rfl ?_|(refine TL.isLoad ?_;refine TL.load1 rfl (Blk.cell yB (numL_at (by omega))) rfl ?_)|(refine TL.isLoad ?_;refine TL.load1 rfl (Blk.cell yB (wL_at (by rw [opL_len];omega))) rfl ?_))
     refine TL.storeS rfl rfl yB (by exact rfl) (by rw [wL_len,opL_len];omega) ?_
     intro w3 hu3 hbk3 hsz3
     rw [wL_set,opL_bit N i k 1 hlt hb] at hbk3
     repeat (first|(refine TL.isMove ?_;refine TL.pure rfl rfl ?_)|(refine TL.isAsg ?_;refine TL.pure rfl rfl ?_)|(refine TL.isAdd ?_;refine TL.addN rfl rfl (by omega) rfl ?_)|refine TL.nil ?_|refine thenQ_normal ?_|refine T.region ?_|refine blockQ_normal ?_)
     exact loopQ_normal (k+1) ⟨rfl,rfl,rfl,rfl,rfl,rfl,rfl,trivial⟩ ⟨by omega,yB,yB,hbk3,yG⟩ (by omega)
   ·obtain rfl:k=lenN i:=by omega
    rw [opL_next N i hlt] at m3
    repeat (first|refine TL.guard_skip rfl rfl rfl ?_|(refine TL.isMove ?_;refine TL.pure rfl rfl ?_)|(refine TL.isAsg ?_;refine TL.pure rfl rfl ?_)|(refine TL.isAdd ?_;refine TL.addN rfl rfl (by omega) rfl ?_)|refine TL.nil ?_|refine thenQ_normal ?_|refine T.seq ?_|refine T.region ?_|refine blockQ_normal ?_|(refine TL.isBin ?_;refine TL.pureF rfl yD rfl ?_)|(refine TL.isConv ?_;refine TL.convN rfl (by omega) rfl ?_)|refine T.cond_false rfl ?_|refine T.exit ?_|refine thenQ_exit ?_|refine blockQ_hit ?_|refine loopQ_exit ?_|refine TL.pure rfl rfl ?_|(refine TL.isFn 370 ?_;refine TL.call rfl (bits_c i (by omega) _) rfl ?_;rintro _ _ ⟨rfl,rfl⟩))
    exact loopQ_normal (i+1) ⟨rfl,by rw [offN_succ];rfl,rfl,rfl,rfl,trivial⟩ ⟨by omega,yB,yB,yB,yG⟩ (by omega)
  ·replace hl9:=hl9 (by omega)
   clear hl8
   repeat (first|(refine TL.isMove ?_;refine TL.pure rfl rfl ?_)|(refine TL.isAsg ?_;refine TL.pure rfl rfl ?_)|refine TL.nil ?_|refine thenQ_normal ?_|refine T.seq ?_|refine T.region ?_|refine T.block ?_|(refine TL.isBin ?_;refine TL.pureT rfl yD rfl ?_)|(refine TL.isConv ?_;refine TL.convN rfl (by omega) rfl ?_)|refine T.cond_true rfl ?_|refine T.skip ?_|(refine TL.isFn 370 ?_;refine TL.call rfl (bits_c i (by omega) _) rfl ?_;rintro _ _ ⟨rfl,rfl⟩))
   refine T.loop (S:=Nat) (λ k=>[(7,.int .i64 (k:Int)),(6,.int .i64 (lenN i:Int)),(5,.int .i64 (i:Int)),(4,.int .i64 (offN i:Int)),(1,.pointer (some ⟨b1,0,none⟩)),(2,.pointer (some ⟨b2,0,none⟩)),(3,.pointer (some ⟨bk,0,none⟩))])
    (λ k v=>k≤lenN i∧Blk v b1 269 (numL N)∧Blk v b2 391 [I1 0,I1 0,I1 0,I1 0,I1 0,I1 0,I1 0,I1 0,I1 0,I1 0]∧Blk v bk 391 (wL (opL N i k))∧Grow w v) (λ k=>lenN i-k) 0 ⟨rfl,by (rw [hl9];rfl),rfl,rfl,rfl,rfl,rfl,trivial⟩
    ⟨by omega,m1,m2,m3,hG⟩ ?_
   clear m1 m2 m3 hG n1 n2 n3
   rintro k v ⟨hk,m1,m2,m3,hG⟩
   have n1:=m1.lt
   have n2:=m2.lt
   have n3:=m3.lt
   rcases Nat.lt_or_ge k (lenN i) with hkl|hkl
   ·have h1k:1*2^k<9223372036854775808:=by
     have:2^k≤2^26:=Nat.pow_le_pow_right (by decide) (by omega)
     omega
    have hgl:=opL_lt N i k i (by omega)
    have hpk:2^k≤2^26:=Nat.pow_le_pow_right (by decide) (by omega)
    have hbb:=byte_bit N (offN i+k)
    have holl:=opL_len N i k
    rcases Nat.mod_two_eq_zero_or_one (N / 2^(offN i+k)) with hb|hb
    ·rw [hb] at hbb
     repeat (first|refine TL.guard_run rfl rfl rfl ?_|(refine TL.isMove ?_;refine TL.pure rfl rfl ?_)|(refine TL.isAsg ?_;refine TL.pure rfl rfl ?_)|(refine TL.isIndex ?_;refine TL.indexA1 rfl rfl (by omega) rfl ?_)|(refine TL.isAdd ?_;refine TL.addN rfl rfl (by omega) rfl ?_)|refine TL.nil ?_|refine thenQ_normal ?_|refine T.seq ?_|refine T.region ?_|refine T.block ?_|refine blockQ_normal ?_|(refine TL.isShr ?_;refine TL.shrS rfl rfl (by (simp only [IntKind.bits];omega)) rfl ?_)|(refine TL.isRem ?_;refine TL.remU rfl rfl (by omega) rfl ?_)|(refine TL.isQuo ?_;refine TL.quoN rfl rfl (by omega) (by omega) rfl ?_)|(refine TL.isBin ?_;first|refine TL.pureT rfl yD rfl ?_|refine TL.pureF rfl yD rfl ?_)|(refine TL.isConv ?_;refine TL.convU rfl rfl (by omega) rfl ?_)|refine T.cond_true rfl ?_|refine T.cond_false rfl ?_|refine T.skip ?_|refine TL.pure rfl rfl ?_|(refine TL.isLoad ?_;refine TL.load1 rfl (Blk.cell yB (numL_at (by omega))) rfl ?_))
     rw [opL_zero N i k hlt hb] at m3
     exact loopQ_normal (k+1) ⟨rfl,rfl,rfl,rfl,rfl,rfl,rfl,trivial⟩ ⟨by omega,yB,yB,yB,yG⟩ (by omega)
    ·rw [hb] at hbb
     repeat (first|refine TL.guard_run rfl rfl rfl ?_|(refine TL.isMove ?_;refine TL.pure rfl rfl ?_)|(refine TL.isIndex ?_;refine TL.indexA1 rfl rfl (by omega) rfl ?_)|(refine TL.isAdd ?_;refine TL.addN rfl rfl (by omega) rfl ?_)|refine TL.nil ?_|refine thenQ_normal ?_|refine T.seq ?_|refine T.region ?_|refine T.block ?_|(refine TL.isShl ?_;refine TL.shlN rfl rfl (by omega) (by omega) rfl ?_)|(refine TL.isShr ?_;refine TL.shrS rfl rfl (by (simp only [IntKind.bits];omega)) rfl ?_)|(refine TL.isRem ?_;refine TL.remU rfl rfl (by omega) rfl ?_)|(refine TL.isQuo ?_;refine TL.quoN rfl rfl (by omega) (by omega) rfl ?_)|(refine TL.isBin ?_;refine TL.pureT rfl yD rfl ?_)|(refine TL.isConv ?_;refine TL.convU rfl rfl (by omega) rfl ?_)|refine T.cond_true rfl ?_|refine T.skip ?_|refine TL.pure rfl rfl ?_|(refine TL.isLoad ?_;refine TL.load1 rfl (Blk.cell yB (numL_at (by omega))) rfl ?_)|(refine TL.isLoad ?_;refine TL.load1 rfl (Blk.cell yB (wL_at (by rw [opL_len];omega))) rfl ?_))
     refine TL.storeS rfl rfl yB (by exact rfl) (by rw [wL_len,opL_len];omega) ?_
     intro w3 hu3 hbk3 hsz3
     rw [wL_set,opL_bit N i k 1 hlt hb] at hbk3
     repeat (first|(refine TL.isMove ?_;refine TL.pure rfl rfl ?_)|(refine TL.isAsg ?_;refine TL.pure rfl rfl ?_)|(refine TL.isAdd ?_;refine TL.addN rfl rfl (by omega) rfl ?_)|refine TL.nil ?_|refine thenQ_normal ?_|refine T.region ?_|refine blockQ_normal ?_)
     exact loopQ_normal (k+1) ⟨rfl,rfl,rfl,rfl,rfl,rfl,rfl,trivial⟩ ⟨by omega,yB,yB,hbk3,yG⟩ (by omega)
   ·obtain rfl:k=lenN i:=by omega
    rw [opL_next N i hlt] at m3
    repeat (first|refine TL.guard_skip rfl rfl rfl ?_|(refine TL.isMove ?_;refine TL.pure rfl rfl ?_)|(refine TL.isAsg ?_;refine TL.pure rfl rfl ?_)|(refine TL.isAdd ?_;refine TL.addN rfl rfl (by omega) rfl ?_)|refine TL.nil ?_|refine thenQ_normal ?_|refine T.seq ?_|refine T.region ?_|refine blockQ_normal ?_|(refine TL.isBin ?_;refine TL.pureF rfl yD rfl ?_)|(refine TL.isConv ?_;refine TL.convN rfl (by omega) rfl ?_)|refine T.cond_false rfl ?_|refine T.exit ?_|refine thenQ_exit ?_|refine blockQ_hit ?_|refine loopQ_exit ?_|refine TL.pure rfl rfl ?_|(refine TL.isFn 370 ?_;refine TL.call rfl (bits_c i (by omega) _) rfl ?_;rintro _ _ ⟨rfl,rfl⟩))
    exact loopQ_normal (i+1) ⟨rfl,by rw [offN_succ];rfl,rfl,rfl,rfl,trivial⟩ ⟨by omega,yB,yB,yB,yG⟩ (by omega)
 ·obtain rfl:i=10:=by omega
  have hol:=opL_len N 10 0
  have hwl:(wL (opL N 10 0)).length=10:=by rw [wL_len,hol]
  have hwc:(wL (carryL (opL N 10 0))).length=10:=by rw [wL_len,carry_len hol]
  repeat (first|(refine TL.isMove ?_;refine TL.pure rfl rfl ?_)|refine TL.nil ?_|refine thenQ_normal ?_|refine T.seq ?_|refine T.region ?_|(refine TL.isBin ?_;refine TL.pureF rfl yD rfl ?_)|refine T.cond_false rfl ?_|refine T.ret ?_|refine T.exit ?_|refine thenQ_exit ?_|refine blockQ_hit ?_|refine loopQ_exit ?_|(refine TL.isLoad ?_;refine TL.loadW rfl yB (by rw [hwl];rfl) rfl ?_)|(refine TL.isFn 371 ?_;refine TL.call rfl (carry_c _ hol (bd_good (by decide) (λ j=>opL_lt N 10 0 j (by decide))) _) rfl ?_;rintro _ _ ⟨rfl,hgc⟩)|(refine TL.isStore ?_;refine TL.storeWh rfl rfl yB (by rw [hwc];rfl) (by exact rfl) (wL_one _) ?_;intro w' hu hbk hsz))
  exact retC rfl (load_whole (by assumption) (by rw [hwc];rfl)) ⟨_,rfl,rfl,yG⟩
end Go.Proofs.YtoldjgmcoekchaaGreatDoor
