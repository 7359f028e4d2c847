import Derived.Test.YtfpadnmdafiddaaGreatDoorYQ
import Derived.Test.YtfpadnmdafiddaaGreatDoorYR
import Derived.Shelf.SortM.Plain
import Derived.Shelf.SortM.SortNone
import Derived.Test.YtfpadnmdafiddaaGreatDoorYN
set_option linter.all false
set_option maxHeartbeats 16000000
set_option maxRecDepth 100000
namespace Go.Proofs
open Go Go.RowKit Go.V Go.Maps Go.Sort Go.Shelf Go.WideShapes
set_option maxRecDepth 20000
def keysL_ren:Go.Shelf.Ren:=⟨fun|10=>200|n=>n,fun|33=>159|23=>224|0=>0|4=>4|26=>3|3=>228|n=>n,fun|n=>n⟩
theorem keysL:SlLaysZI.n10 Tryz.prog keysL_ren where
 mixed:=by kernel_rfl
 f10:=⟨"maps.Keys[map[int]headwater/treewalk.part,int,headwater/treewalk.part]$1",by decide,Tryz.func200.trans (congrArg some (by kernel_rfl))⟩
 t0:=Tryz.underlying0
 a0:=Tryz.isAgg0
 z0:=Tryz.sizeOf0
 v0:=Tryz.zeroValue0
 t4:=Tryz.underlying4
 a4:=Tryz.isAgg4
 z4:=Tryz.sizeOf4
 v4:=Tryz.zeroValue4
 t23:=Tryz.underlying224
 a23:=Tryz.isAgg224
 z23:=Tryz.sizeOf224
 v23:=Tryz.zeroValue224
 t26:=Tryz.underlying3
 a26:=Tryz.isAgg3
 z26:=Tryz.sizeOf3
 v26:=Tryz.zeroValue3
 t33:=Tryz.underlying159
 a33:=Tryz.isAgg159
 z33:=Tryz.sizeOf159
 v33:=Tryz.zeroValue159
def sortedL_ren:Go.Shelf.Ren:=⟨fun|6=>89|8=>157|9=>158|11=>197|13=>199|12=>198|23=>243|24=>244|14=>234|15=>235|16=>236|17=>237|18=>238|19=>239|20=>240|21=>241|22=>242|25=>260|26=>261|27=>262|28=>263|29=>264|30=>229|31=>274|n=>n,fun|26=>3|28=>157|24=>43|0=>0|3=>3|37=>196|48=>319|50=>168|4=>4|40=>312|39=>311|45=>180|5=>5|9=>9|51=>332|55=>335|57=>345|58=>346|33=>159|n=>n,fun|n=>n⟩
theorem sortedL:SlLaysZI.n6 Tryz.prog sortedL_ren where
 mixed:=by kernel_rfl
 f6:=⟨"slices.Sorted[int]",by decide,Tryz.func89.trans (congrArg some (by kernel_rfl))⟩
 f8:=⟨"slices.Collect[int]",by decide,Tryz.func157.trans (congrArg some (by kernel_rfl))⟩
 f11:=⟨"slices.AppendSeq[[]int,int]",by decide,Tryz.func197.trans (congrArg some (by kernel_rfl))⟩
 t0:=Tryz.underlying0
 a0:=Tryz.isAgg0
 z0:=Tryz.sizeOf0
 v0:=Tryz.zeroValue0
 t24:=Tryz.underlying43
 a24:=Tryz.isAgg43
 z24:=Tryz.sizeOf43
 v24:=Tryz.zeroValue43
 t26:=Tryz.underlying3
 a26:=Tryz.isAgg3
 z26:=Tryz.sizeOf3
 v26:=Tryz.zeroValue3
 t28:=Tryz.underlying157
 a28:=Tryz.isAgg157
 z28:=Tryz.sizeOf157
 v28:=Tryz.zeroValue157
 i26:=by kernel_rfl
def sortL_ren:Go.Shelf.Ren:=⟨fun|5=>158|8=>199|7=>198|19=>243|20=>244|10=>234|11=>235|12=>236|13=>237|14=>238|15=>239|16=>240|17=>241|18=>242|30=>260|31=>261|32=>262|33=>263|34=>264|35=>229|40=>274|n=>n,fun|23=>43|25=>3|3=>3|32=>196|22=>43|0=>0|44=>319|46=>168|4=>4|36=>312|35=>311|41=>180|5=>5|9=>9|53=>332|57=>335|63=>345|64=>346|n=>n,fun|n=>n⟩
theorem sortL:SlLaysM.n5 Tryz.prog sortL_ren where
 mixed:=by kernel_rfl
 f5:=⟨"slices.Sort[[]int,int]",by decide,Tryz.func158.trans (congrArg some (by kernel_rfl))⟩
 f7:=⟨"slices.pdqsortOrdered[int]",by decide,Tryz.func198.trans (congrArg some (by kernel_rfl))⟩
 f8:=Tryz.func199.trans (congrArg some (by kernel_rfl))
 f10:=⟨"slices.insertionSortOrdered[int]",by decide,Tryz.func234.trans (congrArg some (by kernel_rfl))⟩
 f11:=⟨"slices.heapSortOrdered[int]",by decide,Tryz.func235.trans (congrArg some (by kernel_rfl))⟩
 f12:=⟨"slices.breakPatternsOrdered[int]",by decide,Tryz.func236.trans (congrArg some (by kernel_rfl))⟩
 f13:=⟨"slices.choosePivotOrdered[int]",by decide,Tryz.func237.trans (congrArg some (by kernel_rfl))⟩
 f14:=⟨"slices.reverseRangeOrdered[int]",by decide,Tryz.func238.trans (congrArg some (by kernel_rfl))⟩
 f15:=⟨"slices.partialInsertionSortOrdered[int]",by decide,Tryz.func239.trans (congrArg some (by kernel_rfl))⟩
 f16:=⟨"cmp.Less[int]",by decide,Tryz.func240.trans (congrArg some (by kernel_rfl))⟩
 f17:=⟨"slices.partitionEqualOrdered[int]",by decide,Tryz.func241.trans (congrArg some (by kernel_rfl))⟩
 f18:=⟨"slices.partitionOrdered[int]",by decide,Tryz.func242.trans (congrArg some (by kernel_rfl))⟩
 f19:=Tryz.func243.trans (congrArg some (by kernel_rfl))
 f20:=Tryz.func244.trans (congrArg some (by kernel_rfl))
 f30:=⟨"slices.siftDownOrdered[int]",by decide,Tryz.func260.trans (congrArg some (by kernel_rfl))⟩
 f31:=Tryz.func261.trans (congrArg some (by kernel_rfl))
 f32:=Tryz.func262.trans (congrArg some (by kernel_rfl))
 f33:=⟨"slices.medianAdjacentOrdered[int]",by decide,Tryz.func263.trans (congrArg some (by kernel_rfl))⟩
 f34:=⟨"slices.medianOrdered[int]",by decide,Tryz.func264.trans (congrArg some (by kernel_rfl))⟩
 f35:=⟨"cmp.isNaN[int]",by decide,Tryz.func229.trans (congrArg some (by kernel_rfl))⟩
 f40:=⟨"slices.order2Ordered[int]",by decide,Tryz.func274.trans (congrArg some (by kernel_rfl))⟩
 t0:=Tryz.underlying0
 a0:=Tryz.isAgg0
 z0:=Tryz.sizeOf0
 v0:=Tryz.zeroValue0
 t3:=Tryz.underlying3
 a3:=Tryz.isAgg3
 z3:=Tryz.sizeOf3
 v3:=Tryz.zeroValue3
 t4:=Tryz.underlying4
 a4:=Tryz.isAgg4
 z4:=Tryz.sizeOf4
 v4:=Tryz.zeroValue4
 t5:=Tryz.underlying5
 a5:=Tryz.isAgg5
 z5:=Tryz.sizeOf5
 v5:=Tryz.zeroValue5
 t9:=Tryz.underlying9
 a9:=Tryz.isAgg9
 z9:=Tryz.sizeOf9
 v9:=Tryz.zeroValue9
 t22:=Tryz.underlying43
 a22:=Tryz.isAgg43
 z22:=Tryz.sizeOf43
 v22:=Tryz.zeroValue43
 t23:=Tryz.underlying43
 a23:=Tryz.isAgg43
 z23:=Tryz.sizeOf43
 v23:=Tryz.zeroValue43
 t25:=Tryz.underlying3
 a25:=Tryz.isAgg3
 z25:=Tryz.sizeOf3
 v25:=Tryz.zeroValue3
 t32:=Tryz.underlying196
 a32:=Tryz.isAgg196
 z32:=Tryz.sizeOf196
 v32:=Tryz.zeroValue196
 t35:=Tryz.underlying311
 a35:=Tryz.isAgg311
 z35:=Tryz.sizeOf311
 v35:=Tryz.zeroValue311
 t36:=Tryz.underlying312
 a36:=Tryz.isAgg312
 z36:=Tryz.sizeOf312
 v36:=Tryz.zeroValue312
 t41:=Tryz.underlying180
 a41:=Tryz.isAgg180
 z41:=Tryz.sizeOf180
 v41:=Tryz.zeroValue180
 t44:=Tryz.underlying319
 a44:=Tryz.isAgg319
 z44:=Tryz.sizeOf319
 v44:=Tryz.zeroValue319
 t46:=Tryz.underlying168
 a46:=Tryz.isAgg168
 z46:=Tryz.sizeOf168
 v46:=Tryz.zeroValue168
 t53:=Tryz.underlying332
 a53:=Tryz.isAgg332
 z53:=Tryz.sizeOf332
 v53:=Tryz.zeroValue332
 t57:=Tryz.underlying335
 a57:=Tryz.isAgg335
 z57:=Tryz.sizeOf335
 v57:=Tryz.zeroValue335
 t63:=Tryz.underlying345
 a63:=Tryz.isAgg345
 z63:=Tryz.sizeOf345
 v63:=Tryz.zeroValue345
 t64:=Tryz.underlying346
 a64:=Tryz.isAgg346
 z64:=Tryz.sizeOf346
 v64:=Tryz.zeroValue346
theorem sortsL (m:Nat):AnyZI.SortsIn Tryz.prog sortedL_ren Fence.wide m :=
 ⟨λ blk off cap ss W hH hblk hsz=>callsIn_wide.2 (AnyM.slices_Sort_int sortL blk off cap ss W hH hblk hsz),λ p cap W=>callsIn_wide.2 (AnyM.slices_Sort_int_none sortL p cap W)⟩
end Go.Proofs
namespace Go.Proofs.YtfpadnmdafiddaaGreatDoor
open Go Go.RowKit Go.V
theorem nodup_le:∀ {l r:List Nat},l.Nodup→(∀ x∈l,x∈r)→l.length≤r.length
 | [],r,_,_=>Nat.zero_le _
 | x::l,r,h,hs=>by
  obtain ⟨h1,h2⟩:=List.nodup_cons.1 h
  have hx:=hs x (by simp)
  have:=nodup_le (l:=l) (r:=r.erase x) h2 λ y hy=>(List.mem_erase_of_ne (λ e=>h1 (by rw [← e];exact hy))).2 (hs y (List.mem_cons_of_mem _ hy))
  rw [List.length_erase_of_mem hx] at this
  have hp:=List.length_pos_of_mem hx
  rw [List.length_cons]
  omega
theorem keys_nat {f:Nat→Option Value}:∀ {es:List MapEntry},(∀ x∈es,∃ n:Nat,n<9223372036854775808∧x.key=.int .i64 (n:Int)∧f n=some x.val)→∃ ks:List Nat,es.map (·.key)=ks.map (λ x=>Value.int .i64 (x:Nat))∧∀ k∈ks,k<9223372036854775808∧∃ v,f k=some v
 | [],_=>⟨[],rfl,by simp⟩
 | x::es,h=>by
  obtain ⟨n,h1,h2,h3⟩:=h x (by simp)
  obtain ⟨ks,k1,k2⟩:=keys_nat (es:=es) λ y hy=>h y (List.mem_cons_of_mem _ hy)
  refine ⟨n::ks,by simp [h2,k1],λ k hk=>?_⟩
  rcases List.mem_cons.1 hk with rfl|hk
  ·exact ⟨h1,_,h3⟩
  ·exact k2 k hk
theorem map_keys {w:World} {m:Nat} {f:Nat→Option Value} (h:MapF w m f) {ps:List Nat} (hp:∀ k,(∃ v,f k=some v)↔k∈ps):∃ (es:List MapEntry) (clock:Nat) (ks ls:List Nat),w.heap[m]? = some (.map es.toArray clock)∧es.map (·.key)=ks.map (λ x=>Value.int .i64 (x:Nat)) ∧
  (∀ x∈ks,x<9223372036854775808)∧(∀ m∈es,m.born<clock)∧(es.map (·.born)).Pairwise (· < ·)∧ks.length≤ps.length∧ls.Perm ks∧ls.Pairwise (· < ·)∧∀ k,k∈ls↔k∈ps:=by
 obtain ⟨es,clock,h1,h2,h3,h4⟩:=h
 obtain ⟨ks,k1,k2⟩:=keys_nat h2
 have hkm:∀ k,k∈ks↔k∈ps:=λ k=>by
  rw [← hp]
  refine ⟨λ hk=>(k2 k hk).2,λ ⟨v,hv⟩=>?_⟩
  obtain ⟨x,hx,e⟩:=h3 k v hv
  have:=List.mem_map_of_mem (f:=λ x:MapEntry=>x.key) hx
  rw [k1,e] at this
  obtain ⟨n,hn,e2⟩:=List.mem_map.1 this
  have:n=k:=by simp only [Value.int.injEq,true_and] at e2;omega
  exact this▸hn
 have hnd:ks.Nodup:=by
  have h5:(es.toList.map (·.key)).Pairwise (·≠·):=List.pairwise_map.2 h4.keys
  rw [k1] at h5
  exact (List.pairwise_map.1 h5).imp λ h e=>h (by rw [e])
 have hperm:=List.mergeSort_perm ks (λ x y=>decide (x≤y))
 have hle:(ks.mergeSort (λ x y=>decide (x≤y))).Pairwise (λ a b=>decide (a≤b)=true):=List.pairwise_mergeSort (le:=λ x y=>decide (x≤y)) (λ a b c h1 h2=>by simp only [decide_eq_true_eq] at *;omega) (λ a b=>by simp only [Bool.or_eq_true,decide_eq_true_eq];omega) ks
 have hnd2:=(hperm.nodup_iff).2 hnd
 refine ⟨es.toList,clock,ks,ks.mergeSort (λ x y=>decide (x≤y)),by simpa using h1,k1,λ x hx=>(k2 x hx).1,h4.lt,List.pairwise_map.2 h4.born,nodup_le hnd λ x hx=>(hkm x).1 hx,hperm,?_,λ k=>by rw [hperm.mem_iff];exact hkm k⟩
 exact (hle.and hnd2).imp λ h=>by
  obtain ⟨a,b⟩:=h
  simp only [decide_eq_true_eq] at a
  omega
theorem mkeys_c (m:Nat) (w:World) :
  Calls Tryz.prog 159 #[.map (some m)] w (Ret λ v w'=>∃ c,v=.func (.func 200) #[] #[.pointer (some ⟨c,0,none⟩)]∧w.heap.size≤c∧Blk w' c 224 [.map (some m)]∧Grow w w'):=by
 refine V.calls (args:=[_]) Tryz.func159 rfl Tryz.ntmps159 rfl rfl ?_
 repeat (first|(refine TL.isMakeFunc ?_;refine TL.makeFunc (xs:=[]) (cs:=[_]) rfl rfl rfl ?_)|(refine TL.isAsg ?_;refine TL.pure rfl rfl ?_)|refine TL.nil ?_|refine thenQ_normal ?_|refine T.seq ?_|refine T.region ?_|(refine TL.isBox ?_;(refine TL.box rfl rfl rfl ?_;intro bk w' hg hbk hsz hsz'))|refine T.ret ?_)
 exact ret1 rfl ⟨_,rfl,bk,rfl,by omega,hbk,hg⟩
theorem wpages_c {w:World} {b m p:Nat} (hbw:Blk w b 226 [.pointer (some ⟨p,0,none⟩),.map (some m)]) :
  Calls Tryz.prog 90 #[.pointer (some ⟨b,0,none⟩)] w (Ret λ v w'=>∃ c,v=.func (.func 200) #[] #[.pointer (some ⟨c,0,none⟩)]∧w.heap.size≤c∧Blk w' c 224 [.map (some m)]∧Grow w w'):=by
 refine V.calls (args:=[_]) Tryz.func90 rfl Tryz.ntmps90 rfl rfl ?_
 repeat (first|(refine TL.isMove ?_;refine TL.pure rfl rfl ?_)|(refine TL.isAsg ?_;refine TL.pure rfl rfl ?_)|refine TL.load1 rfl yM rfl ?_|refine TL.fieldAddr rfl rfl ?_|refine TL.nil ?_|refine thenQ_normal ?_|refine T.seq ?_|refine T.region ?_|refine TL.nilCheck rfl rfl ?_)
 refine TL.isFn 159 ?_
 refine TL.call rfl (mkeys_c m w) rfl ?_
 rintro _ w1 ⟨c,rfl,hc,hb,hg⟩
 repeat (first|(refine TL.isAsg ?_;refine TL.pure rfl rfl ?_)|refine TL.nil ?_|refine thenQ_normal ?_|refine T.ret ?_)
 exact ret1 rfl ⟨_,rfl,c,rfl,hc,hb,hg⟩
theorem sorted_c {w:World} {c m:Nat} {f:Nat→Option Value} (hb:Blk w c 224 [.map (some m)]) (h:MapF w m f) {ps:List Nat} (hp:∀ k,(∃ v,f k=some v)↔k∈ps) (hlen:ps.length≤1000000) :
  Calls Tryz.prog 89 #[.func (.func 200) #[] #[.pointer (some ⟨c,0,none⟩)]] w (Ret λ v w'=>∃ ls,w'.ownsRow w.heap.size 3 1 v ls.length (ints' ls)∧(∀ k,k∈ls↔k∈ps)∧ls.length≤ps.length∧Grow w w'):=by
 obtain ⟨es,clock,ks,ls,h1,h2,h3,h4,h5,h6,h7,h8,h9⟩:=map_keys h hp
 have e9:∀ args w,(callFunc (sortedL_ren.f 9) args).run Tryz.prog w=.ok (.enter (sortedL_ren.f 9) args) w:=enters_of Tryz.func158 (by kernel_rfl) rfl
 have eg:∀ args w,(callFunc (keysL_ren.f 10) args).run Tryz.prog w=.ok (.enter (keysL_ren.f 10) args) w:=enters_of Tryz.func200 (by kernel_rfl) rfl
 have hb':w.heap[c]? = some (.cells #[.map (some m)] 224 (0,0)):=by unfold Blk at hb;simpa using hb
 have key:=sorted_g keysL sortedL rfl (sortsL 4) e9 eg w c m es clock ks ls 224 (0,0) hb' h1 h2 h3 h4 h5 (by omega) h7 h8
 refine Calls.mono key λ y w' hy=>hy.mono λ v w' ⟨hg,hor⟩=>⟨ls,?_,h9,by rw [h7.length_eq];exact h6,hg⟩
 have hll:ls.length≤1000000:=by rw [h7.length_eq];omega
 rcases hor with ⟨rfl,rfl⟩|⟨hne,g,cap,cur,rfl,hg1,hg2,hg3,hg4,hg5,hg6⟩
 ·exact own_nil
 ·refine ⟨by simp [ints'],.inr ⟨g,cap,cur,rfl,hg1,hg2,hg3,hg4,by omega,?_⟩⟩
  apply List.ext_getElem?
  intro i
  rw [List.getElem?_take]
  by_cases hi:i<ls.length
  ·obtain ⟨x,hx⟩:∃ x,ls[i]? = some x:=⟨_,List.getElem?_eq_getElem hi⟩
   have:=hg6 i (.int .i64 (x:Nat)) (by simp [hx])
   rw [if_pos (by omega),show cur.toList[i]? = cur[i]? by simp,this]
   simp [ints',hx]
  ·rw [if_neg (by omega)]
   rw [List.getElem?_eq_none (by rw [length_ints'];omega)]
theorem reach_c {L:PL} {g:Pg} {w:World} {lv:Nat} {M':Memo} {root:Option Nat} (h:PgAt w L g) (hr:∀ n,root=some n→n<4294967296) (ht:treeP g root []=some (lv,M')) {ps:List Nat} (hps:∀ k,(∃ t,getM M' k=some t)↔k∈ps) (hlen:ps.length≤1000000) :
  Calls Tryz.prog 22 #[.pointer (some ⟨L.p,0,none⟩),.int .i64 (rootI root)] w (Ret λ v w'=>∃ ls a c,v=.tuple #[.slice a ls.length c,.int .i64 0]∧Sl (λ k=>w.heap.size≤k∧k<w'.heap.size) w' 1 a ls.length c (ints' ls)∧(∀ k,k∈ls↔k∈ps)∧ls.length≤ps.length∧Grow w w'):=by
 have hlts:=h.lts
 refine V.calls (args:=[_,_]) Tryz.func22 rfl Tryz.ntmps22 rfl rfl ?_
 repeat (first|(refine TL.isMove ?_;refine TL.pure rfl rfl ?_)|(refine TL.isAsg ?_;refine TL.pure rfl rfl ?_)|refine TL.nil ?_|refine thenQ_normal ?_|refine T.seq ?_|refine T.region ?_)
 refine TL.isFn 87 ?_
 refine TL.call rfl (walk_new L.p w) rfl ?_
 rintro _ w1 ⟨b,m,rfl,hb,hm,hwk,hg1⟩
 have hbl:=hwk.blk.lt
 have hml:=hwk.map.lt
 repeat (first|(refine TL.isMove ?_;refine TL.pure rfl rfl ?_)|(refine TL.isAsg ?_;refine TL.pure rfl rfl ?_)|refine TL.nil ?_|refine thenQ_normal ?_|refine T.seq ?_|refine T.region ?_)
 refine TL.isFn 88 ?_
 refine TL.call rfl (walked_c h hg1 hwk hb hm hr ht) rfl ?_
 rintro _ w2 ⟨rfl,hM,hbw,hg2⟩
 have z2:=hg2.size
 repeat (first|(refine TL.isMove ?_;refine TL.pure rfl rfl ?_)|(refine TL.isAsg ?_;refine TL.pure rfl rfl ?_)|refine TL.nil ?_|refine thenQ_normal ?_|refine T.seq ?_|refine T.region ?_|(refine TL.isBin ?_;refine TL.pure rfl rfl ?_)|refine T.cond_false rfl ?_|refine T.skip ?_|refine TL.pure rfl rfl ?_)
 refine TL.isFn 90 ?_
 refine TL.call rfl (wpages_c hbw) rfl ?_
 rintro _ w3 ⟨c,rfl,hc,hcb,hg3⟩
 have z3:=hg3.size
 obtain ⟨f,hf,hf0,hf1⟩:=hM
 have hfp:∀ k,(∃ v,f k=some v)↔k∈ps:=λ k=>by
  rw [← hps]
  refine ⟨λ ⟨v,hv⟩=>?_,λ ⟨t,ht⟩=>?_⟩
  ·cases hg:getM M' k with
   | none=>rw [hf0 k hg] at hv;cases hv
   | some t=>exact ⟨t,rfl⟩
  ·obtain ⟨x,lo,hi,e,_⟩:=hf1 k t ht
   exact ⟨_,e⟩
 repeat (refine T.seq ?_)
 refine TL.isFn 89 ?_
 refine TL.call rfl (sorted_c hcb (hf.grow hg3) hfp hlen) rfl ?_
 rintro v4 w4 ⟨ls,hv4,hls,hln,hg4⟩
 obtain ⟨a,c4,rfl,hsl⟩:=sl_of_own hv4
 repeat (first|(refine TL.isAsg ?_;refine TL.pure rfl rfl ?_)|refine TL.nil ?_|refine thenQ_normal ?_|refine T.ret ?_)
 exact ret2 rfl rfl ⟨_,rfl,ls,a,c4,rfl,hsl.mono (λ k hk=>by have:=own_lt hv4 hk.2;omega),hls,hln,(hg2.trans hg3).trans hg4⟩
end Go.Proofs.YtfpadnmdafiddaaGreatDoor
namespace Go.Proofs.YtfpadnmdafiddaaGreatDoor
open Go Go.RowKit Go.V
theorem TrAt.root_used {g:Pg} {root:Option Nat} {lv:Nat} {l:Its} {ps:List Nat} (h:TrAt g root lv l ps):∀ n,root=some n→usedP g n=true:=by
 rintro n rfl
 obtain ⟨h,nd,ps',e1,e2,e3,e4,e5⟩:=h
 exact nodeP_used e2
structure Aft (w w':World) (L:PL) (g g':Pg) (lv:Nat) (root':Option Nat) (lv':Nat) (l':Its) (ps':List Nat):Prop where
 pg:PgW w' L g'
 ext:Ext g g'
 tr:TrAt g' root' lv' l' ps'
 sp:spareP g≤spareP g'+(2*lv+1)
 sp2:spareP g'≤spareP g
 but:ButS L.S w w'
theorem put_any {w:World} {L:PL} {g:Pg} (h:PgW w L g) {root:Option Nat} {lv:Nat} {l:Its} {ps:List Nat} (ht:TrAt g root lv l ps) (hlv:lv≤15) (hsp:32≤spareP g) (a a':Option Addr) (m c m' c':Nat) (key v:Bs) (hk:Sl (λ k=>¬ L.S k) w 1 a m c (bys key)) (hv:Sl (λ k=>¬ L.S k) w 1 a' m' c' (bys v)) (hkb:byB key) (hvb:byB v) :
  Calls Tryz.prog 25 #[.pointer (some ⟨L.p,0,none⟩),.int .i64 (rootI root),.slice a m c,.slice a' m' c'] w (Ret λ u w'=>∃ (x e:Int) (root':Option Nat) (g':Pg) (lv':Nat) (l':Its) (ps':List Nat),u=.tuple #[.int .i64 x,.int .i64 e] ∧
   (((keyOk key&&valOk v)=true∧e=0∧x=rootI root'∧l'=insI key v l)∨((keyOk key&&valOk v)=false∧e=2∧root'=root∧g'=g∧l'=l∧lv'=lv))∧Aft w w' L g g' lv root' lv' l' ps'):=by
 cases hb:keyOk key&&valOk v with
 | false =>
  refine Calls.mono (put_bad h.at_ root ht.root_used a a' m c m' c' key v hk hv hb) λ y w' hy=>hy.mono λ u w' ⟨hu,hg⟩=>⟨0,2,root,g,lv,l,ps,hu,.inr ⟨rfl,rfl,rfl,rfl,rfl,rfl⟩,⟨h.grow hg,Ext.refl _,ht,by omega,by omega,ButS.grow hg⟩⟩
 | true =>
  obtain ⟨hko,hvo⟩:=Bool.and_eq_true_iff.1 hb
  obtain ⟨n,g',lv',ps',e1,e2,e3,e4,e5,e6,e7⟩:=put_tr h.at_.ok ht hko hvo (by omega) (by omega)
  refine Calls.mono (put_c h.at_ h.tab h.ne0 root a a' m c m' c' key v hk hv hko hvo hkb hvb hsp n e1) λ y w' hy=>hy.mono λ u w' ⟨hu,hp,hbs⟩=>⟨(n:Int),0,some n,g',lv',_,ps',hu,.inl ⟨rfl,rfl,rfl,rfl⟩,⟨h.put hp hbs,e2,e4,e6,e7,hbs⟩⟩
theorem put_det {g:Pg} (hok:PgOk g) {root:Option Nat} {lv:Nat} {l:Its} {ps:List Nat} (ht:TrAt g root lv l ps) (hlv:lv≤15) (hsp:32≤spareP g) (key v:Bs) (hkb:byB key) (hvb:byB v):∃ (x e:Int) (root':Option Nat) (g':Pg) (lv':Nat) (l':Its) (ps':List Nat),
  (((keyOk key&&valOk v)=true∧e=0∧x=rootI root'∧l'=insI key v l)∨((keyOk key&&valOk v)=false∧e=2∧root'=root∧g'=g∧l'=l∧lv'=lv))∧Ext g g'∧TrAt g' root' lv' l' ps'∧spareP g≤spareP g'+(2*lv+1)∧spareP g'≤spareP g ∧
  ∀ {w:World} {L:PL},PgW w L g→∀ (a a':Option Addr) (m c m' c':Nat),Sl (λ k=>¬ L.S k) w 1 a m c (bys key)→Sl (λ k=>¬ L.S k) w 1 a' m' c' (bys v) →
   Calls Tryz.prog 25 #[.pointer (some ⟨L.p,0,none⟩),.int .i64 (rootI root),.slice a m c,.slice a' m' c'] w (Ret λ u w'=>u=.tuple #[.int .i64 x,.int .i64 e]∧PgW w' L g'∧ButS L.S w w'):=by
 cases hb:keyOk key&&valOk v with
 | false =>
  exact ⟨0,2,root,g,lv,l,ps,.inr ⟨rfl,rfl,rfl,rfl,rfl,rfl⟩,Ext.refl _,ht,by omega,by omega,λ h a a' m c m' c' hk hv=>Calls.mono (put_bad h.at_ root ht.root_used a a' m c m' c' key v hk hv hb) λ y w' hy=>hy.mono λ u w' ⟨hu,hg⟩=>⟨hu,h.grow hg,ButS.grow hg⟩⟩
 | true =>
  obtain ⟨hko,hvo⟩:=Bool.and_eq_true_iff.1 hb
  obtain ⟨n,g',lv',ps',e1,e2,e3,e4,e5,e6,e7⟩:=put_tr hok ht hko hvo (by omega) (by omega)
  exact ⟨(n:Int),0,some n,g',lv',_,ps',.inl ⟨rfl,rfl,rfl,rfl⟩,e2,e4,e6,e7,λ h a a' m c m' c' hk hv=>Calls.mono (put_c h.at_ h.tab h.ne0 root a a' m c m' c' key v hk hv hko hvo hkb hvb hsp n e1) λ y w' hy=>hy.mono λ u w' ⟨hu,hp,hbs⟩=>⟨hu,h.put hp hbs,hbs⟩⟩
theorem del_any {w:World} {L:PL} {g:Pg} (h:PgW w L g) {root:Option Nat} {lv:Nat} {l:Its} {ps:List Nat} (ht:TrAt g root lv l ps) (hlv:lv≤15) (hsp:32≤spareP g) (a:Option Addr) (m c:Nat) (key:Bs) (hk:Sl (λ k=>¬ L.S k) w 1 a m c (bys key)) :
  Calls Tryz.prog 19 #[.pointer (some ⟨L.p,0,none⟩),.int .i64 (rootI root),.slice a m c] w (Ret λ u w'=>∃ (x e:Int) (root':Option Nat) (g':Pg) (lv':Nat) (l':Its) (ps':List Nat),u=.tuple #[.int .i64 x,.int .i64 e] ∧
   (((∃ y∈l,y.1=key)∧e=0∧x=rootI root'∧l'=delI key l)∨((¬ ∃ y∈l,y.1=key)∧(e=2∨e=6)∧(keyOk key=false→e=2)∧root'=root∧g'=g∧l'=l∧lv'=lv))∧Aft w w' L g g' lv root' lv' l' ps'):=by
 cases hb:keyOk key with
 | false =>
  have hno:¬ ∃ y∈l,y.1=key:=λ ⟨y,hy,e⟩=>by
   have:=(ht.items y hy).1
   rw [e,hb] at this
   cases this
  refine Calls.mono (delete_bad h.at_ root ht.root_used a m c key hk hb) λ y w' hy=>hy.mono λ u w' ⟨hu,hg⟩=>⟨0,2,root,g,lv,l,ps,hu,.inr ⟨hno,.inl rfl,λ _=>rfl,rfl,rfl,rfl,rfl⟩,⟨h.grow hg,Ext.refl _,ht,by omega,by omega,ButS.grow hg⟩⟩
 | true =>
  cases root with
  | none =>
   have hno:¬ ∃ y∈l,y.1=key:=λ ⟨y,hy,e⟩=>by rw [ht.2.1] at hy;cases hy
   refine Calls.mono (delete_none h.at_ hsp a m c key hk hb) λ y w' hy=>hy.mono λ u w' ⟨hu,hg⟩=>⟨0,6,none,g,lv,l,ps,hu,.inr ⟨hno,.inr rfl,(λ e=>by cases e),rfl,rfl,rfl,rfl⟩,⟨h.grow hg,Ext.refl _,ht,by omega,by omega,ButS.grow hg⟩⟩
  | some n =>
   by_cases hth:∃ y∈l,y.1=key
   ·obtain ⟨fr,r1,g1,lv1,ps1,d1,d2,d3,d4,d5,d6,d7⟩:=del_tr h.at_.ok ht hth (by omega) (by omega)
    refine Calls.mono (delete_c h.at_ h.tab h.ne0 n a m c key hk hb hsp fr d1 r1 d2) λ y w' hy=>hy.mono λ u w' ⟨hu,hp,hbs⟩=>⟨rootI r1,0,r1,g1,lv1,_,ps1,hu,.inl ⟨hth,rfl,rfl,rfl⟩,⟨h.put hp hbs,d3,d5,d6,d7,hbs⟩⟩
   ·obtain ⟨hh,nd,ps',e1,e2,e3,e4,e5⟩:=id ht
    obtain ⟨fr,th,p1,p2,p3,p4⟩:=path_tr key hh (f:=16) e2 e3 (by omega)
    have hf:th=false:=by
     cases th with
     | false=>rfl
     | true=>exact absurd (p3.1 rfl) hth
    subst hf
    refine Calls.mono (delete_miss h.at_ hsp n a m c key hk hb fr p1) λ y w' hy=>hy.mono λ u w' ⟨hu,hg⟩=>⟨0,6,some n,g,lv,l,ps,hu,.inr ⟨hth,.inr rfl,(λ e=>by cases e),rfl,rfl,rfl,rfl⟩,⟨h.grow hg,Ext.refl _,ht,by omega,by omega,ButS.grow hg⟩⟩
end Go.Proofs.YtfpadnmdafiddaaGreatDoor
namespace Go.V
open Go Go.RowKit
section
variable [Rn]
variable {P:Program} {n:Nat} {l:List Oper} {e:Env} {I:World→Prop} {vs:List Value}
theorem det_mkG {i j:Nat} {want:Bool} {d:Option Nat} {op:Op} {ty:TypeId} {pos:String} {aft:Array Edge} {v:Value} {e':Env} (ho:l[i]? = some ⟨d,op,ty,pos,aft,some (j,want)⟩) (hv:vs.getD i undef=v) (he:depEnv l vs (uniq (depsOf ⟨d,op,ty,pos,aft,some (j,want)⟩)) e=e')
  (h:∀ w,I w→TL P n l.toArray [⟨d,op,ty,pos,aft,some (j,want)⟩] e' w (detQ d v I)):Det P n l e I vs i:=by
 unfold Det
 rw [ho]
 simp only
 intro w hw
 subst he
 rw [hv]
 exact h w hw
end
end Go.V
namespace Go.Proofs.YtfpadnmdafiddaaGreatDoor
open Go Go.RowKit Go.V
structure TkMid (w v:World) (L:PL) (g0:Pg) (lv0:Nat) (g:Pg) (root:Option Nat) (lv:Nat) (l:Its) (ps:List Nat) (a1:Option Addr) (c1:Nat) (a2:Option Addr) (c2:Nat):Prop where
 pg:PgW v L g
 tr:TrAt g root lv l ps
 ext:Ext g0 g
 sp:spareP g0≤spareP g+(2*lv0+1)
 sp2:spareP g≤spareP g0
 was:Sl (λ k=>¬ L.S k) v 1 a1 (usedL g0).length c1 (ints' (usedL g0))
 now:Sl (λ k=>¬ L.S k) v 1 a2 (usedL g).length c2 (ints' (usedL g))
 gr:Grow w v
theorem TkMid.grow {w v v':World} {L:PL} {g0 g:Pg} {lv0 lv:Nat} {root:Option Nat} {l:Its} {ps:List Nat} {a1 a2:Option Addr} {c1 c2:Nat} (h:TkMid w v L g0 lv0 g root lv l ps a1 c1 a2 c2) (hg:Grow v v'):TkMid w v' L g0 lv0 g root lv l ps a1 c1 a2 c2 :=
 ⟨h.pg.grow hg,h.tr,h.ext,h.sp,h.sp2,h.was.grow hg,h.now.grow hg,h.gr.trans hg⟩
def ownS {S:Nat→Prop} (base elem sz m:Nat) (xs:List Value) (hS:∀ k,base≤k→¬ S k):AFact (ButS S) :=
 { G:=λ u _ _ w=>w.ownsRow base elem sz u m xs,st:=λ _ _ _ _ _ g h=>own_grow h g,firm:=true,fm:=λ _ _ _ _ _ _ sa h=>own_keep h λ k hk hv=>sa.block k (own_lt h hv).2 (hS k hk) }
theorem ext_len {g0 g:Pg} (h:Ext g0 g):(usedL g0).length≤(usedL g).length:=by
 unfold usedL
 rw [h.count,← List.countP_eq_length_filter,← List.countP_eq_length_filter]
 exact List.countP_mono_left λ n _ hn=>(h.used n hn).1
theorem usedL_le {g:Pg} (h:g.count≤8192):(usedL g).length≤8192:=Nat.le_trans (totalP_le g) h
theorem takes_c {F:Nat→Prop} {w:World} {a:Option Addr} {n c:Nat} {cs:List Value} {l:List (Int×Bs×Bs)} (htab:TabAt w) (hs0:Sl F w 3 a n c cs) (ha0:ActCells F w cs l) (hn:n=l.length) (hby:∀ x∈l,byB x.2.1∧byB x.2.2) (hki:∀ x∈l,-9223372036854775808≤x.1∧x.1≤9223372036854775807) :
  Calls Tryz.prog 5 #[.slice a n c] w (Ret λ v w'=>v=.bool true∧Grow w w'):=by
 obtain ⟨F0,hF0⟩:∃ F0:Nat→Prop,∀ k,F0 k↔k<w.heap.size:=⟨_,λ _=>Iff.rfl⟩
 have hs:Sl F0 w 3 a n c cs:=hs0.go (Carry.mono λ k _ hl=>(hF0 k).2 hl)
 have ha:ActCells F0 w cs l:=ha0.go (Carry.mono λ k _ hl=>(hF0 k).2 hl)
 clear hs0 ha0
 have hnm:=hs.le
 subst hn
 refine V.calls (args:=[_]) Tryz.func5 rfl Tryz.ntmps5 rfl rfl ?_
 repeat (first|(refine TL.isAsg ?_;refine TL.pure rfl rfl ?_)|refine TL.nil ?_|refine thenQ_normal ?_|refine T.seq ?_|refine T.region ?_)
 refine TL.isFn 13 ?_
 refine TL.call (vs:=[]) rfl (lives_c w htab) rfl ?_
 rintro _ w1 ⟨rfl,hg1⟩
 repeat (first|(refine TL.isMove ?_;refine TL.pure rfl rfl ?_)|refine TL.nil ?_|refine thenQ_normal ?_|refine T.seq ?_|refine T.region ?_|refine T.cond_false rfl ?_|refine T.skip ?_|refine TL.pure rfl rfl ?_)
 refine TL.isFn 14 ?_
 refine TL.call rfl (small_c (hs.grow hg1) (ha.go (Carry.grow hg1)) rfl) rfl ?_
 rintro _ w2 ⟨rfl,hg2⟩
 have hg02:=hg1.trans hg2
 cases hsm:smallB l with
 | false =>
  repeat (first|(refine TL.isAsg ?_;refine TL.pure rfl rfl ?_)|refine TL.nil ?_|refine thenQ_normal ?_|refine T.seq ?_|refine T.region ?_|refine T.cond_true rfl ?_|refine T.ret ?_|refine thenQ_ret ?_|refine TL.pure rfl rfl ?_)
  exact ret1 rfl ⟨_,rfl,rfl,hg02⟩
 | true =>
  have hsml:l.length≤80∧∀ x∈l,x.2.1.length≤100∧x.2.2.length≤100:=by
   simp only [smallB,Bool.and_eq_true,decide_eq_true_eq,List.all_eq_true] at hsm
   exact hsm
  obtain ⟨hl80,hsml⟩:=hsml
  repeat (first|refine TL.nil ?_|refine thenQ_normal ?_|refine T.seq ?_|refine T.region ?_|refine T.cond_false rfl ?_|refine T.skip ?_|refine TL.pure rfl rfl ?_)
  refine TL.isFn 15 ?_
  refine TL.call rfl (started_c 200 w2 (by omega) (by omega)) rfl ?_
  rintro _ w3 ⟨L0,rfl,hL0,hp0,hg3⟩
  have z1:=hg1.size
  have z2:=hg2.size
  have hg03:Grow w w3:=hg02.trans hg3
  have t3:TabAt w3:=htab.grow hg03
  have h00:=htab.1
  have hpp:PgW w3 L0 (pg0 200):=⟨hp0,t3,λ h=>by
   unfold PL.S at h
   rcases h with h|h|h
   ·have:=hL0 L0.u (by simp);omega
   ·have:=hL0 L0.m (by simp);omega
   ·have:=hL0 L0.p (by simp);omega⟩
  have hLw:∀ b,b=L0.p∨b=L0.d∨b=L0.u∨b=L0.m→w.heap.size≤b:=λ b hb=>by have:=hL0 b hb;omega
  clear hL0 hp0 hg1 hg2 hg02 z1 z2 t3 hsm hg3
  repeat (first|(refine TL.isMove ?_;refine TL.pure rfl rfl ?_)|(refine TL.isAsg ?_;refine TL.pure rfl rfl ?_)|refine TL.nil ?_|refine thenQ_normal ?_|refine T.seq ?_|refine T.region ?_|refine T.block ?_|refine T.cond_false rfl ?_|refine T.skip ?_|refine TL.pure rfl rfl ?_)
  refine T.loop (S:=Nat×PL×Pg×Option Nat) (λ q=>[(6,.int .i64 (q.1:Int)),(5,.int .i64 (rootI q.2.2.2)),(3,.pointer (some ⟨L0.p,0,none⟩)),(0,.slice a l.length c)])
   (λ q v=>q.1≤l.length∧q.2.1.p=L0.p∧PgW v q.2.1 q.2.2.1∧(∀ b,b=q.2.1.p∨b=q.2.1.d∨b=q.2.1.u∨b=q.2.1.m→w.heap.size≤b)∧(∃ lv its ps,TrAt q.2.2.1 q.2.2.2 lv its ps∧its.length≤q.1)∧32≤spareP q.2.2.1∧q.2.2.1.count=200∧Grow w v)
   (λ q=>l.length-q.1) (0,L0,pg0 200,none) ⟨rfl,rfl,rfl,rfl,trivial⟩
   ⟨Nat.zero_le _,rfl,hpp,hLw,⟨0,[],[],⟨rfl,rfl,rfl⟩,by simp⟩,by simp only [spare_pg0];omega,rfl,hg03⟩ ?_
  clear hpp hLw hg03
  rintro ⟨i,L,g,root⟩ v ⟨hi,hLp,hp,hL,⟨lv,its,ps,htr,hil⟩,hsp,hcnt,hgv⟩
  simp only at hi hLp hp hL htr hil hsp hcnt
  refine T.weaken (e':=[(6,.int .i64 (i:Int)),(5,.int .i64 (rootI root)),(3,.pointer (some ⟨L.p,0,none⟩)),(0,.slice a l.length c)]) ?_ ⟨rfl,rfl,by rw [hLp];rfl,rfl,trivial⟩
  by_cases hlt:i<l.length
  rotate_left
  ·repeat (first|(refine TL.isMove ?_;refine TL.pure rfl rfl ?_)|(refine TL.isAsg ?_;refine TL.pure rfl rfl ?_)|refine TL.nil ?_|refine thenQ_normal ?_|refine T.seq ?_|refine T.region ?_|(refine TL.isBin ?_;refine TL.pureF rfl yD rfl ?_)|refine TL.len_slice rfl rfl ?_|refine T.cond_false rfl ?_|refine T.ret ?_|refine T.exit ?_|refine thenQ_exit ?_|refine blockQ_hit ?_|refine loopQ_exit ?_)
   exact ret1 rfl ⟨_,rfl,rfl,hgv⟩
  obtain ⟨x,hx⟩:∃ q,l[i]? = some q:=⟨_,List.getElem?_eq_getElem hlt⟩
  have hxm:=List.mem_of_getElem? hx
  obtain ⟨kv,vv,f0,f1,f2,hkx,hvx⟩:=(ha.go (Carry.grow hgv)).at' hx
  obtain ⟨ka,kc,rfl,hks⟩:=hkx.sl
  obtain ⟨va,vc,rfl,hvs⟩:=hvx.sl
  have hsv:=hs.grow hgv
  obtain ⟨hx1,hx2⟩:=hsml x hxm
  obtain ⟨hb1,hb2⟩:=hby x hxm
  obtain ⟨hk1,hk2⟩:=hki x hxm
  have hlv:lv≤3:=htr.levels (k:=3) (by omega) (by omega)
  refine T.cutAt 1 (λ e' w'=>Sub [(6,.int .i64 (i:Int)),(5,.int .i64 (rootI root)),(3,.pointer (some ⟨L.p,0,none⟩)),(0,.slice a l.length c)] e'∧v=w') ?_ ?_
  rotate_left
  ·repeat (first|(refine TL.isMove ?_;refine TL.pure rfl rfl ?_)|refine TL.nil ?_|refine thenQ_normal ?_|refine T.seq ?_|refine T.region ?_|(refine TL.isBin ?_;refine TL.pureT rfl yD rfl ?_)|refine TL.len_slice rfl rfl ?_|refine T.cond_true rfl ?_|refine T.skip ?_|refine uptoQ_normal ?_|refine upto_seq ?_|refine upto_end ?_)
   exact ⟨⟨rfl,rfl,rfl,rfl,trivial⟩,rfl⟩
  rintro e1 _ ⟨hsub,rfl⟩
  refine T.weaken (e':=[(6,.int .i64 (i:Int)),(5,.int .i64 (rootI root)),(3,.pointer (some ⟨L.p,0,none⟩)),(0,.slice a l.length c)]) ?_ hsub
  clear hsub e1
  refine T.seq (T.block ?_)
  refine T.cutAt 8 (λ e' w'=>∃ g' root' lv' its' ps' a1 c1 a2 c2,Sub [(12,.slice a2 (usedL g').length c2),(9,.int .i64 (lv:Int)),(8,.slice a1 (usedL g).length c1),(6,.int .i64 (i:Int)),(5,.int .i64 (rootI root')),(3,.pointer (some ⟨L.p,0,none⟩)),(0,.slice a l.length c)] e' ∧
   TkMid w w' L g lv g' root' lv' its' ps' a1 c1 a2 c2∧its'.length≤i+1) ?_ ?_
  rotate_left
  ·obtain ⟨M1,hM1,_,_⟩:=tree_tr htr (by omega)
   have hr4:∀ n,root=some n→n<4294967296:=λ n hn=>by
    have:=usedP_lt (htr.root_used n hn)
    omega
   have hcx:∀ j u,[Value.int .i64 x.1,.slice ka x.2.1.length kc,.slice va x.2.2.length vc][j]? = some u→cs[i*3+j]? = some u:=λ j u hj=>by
    match j,hj with
    | 0,hj=>simp only [List.getElem?_cons_zero,Option.some.injEq] at hj;subst hj;exact f0
    | 1,hj=>simp only [List.getElem?_cons_succ,List.getElem?_cons_zero,Option.some.injEq] at hj;subst hj;exact f1
    | 2,hj=>simp only [List.getElem?_cons_succ,List.getElem?_cons_zero,Option.some.injEq] at hj;subst hj;exact f2
    | j+3,hj=>simp at hj
   repeat (first|(refine TL.isIndex ?_;refine TL.indexAddr (j:=i) rfl rfl rfl hlt rfl ⟨_,_,hsv⟩ rfl ?_)|refine TL.loadSl rfl hsv hcx rfl rfl ?_|(refine TL.isMove ?_;refine TL.pure rfl rfl ?_)|refine TL.nil ?_|refine T.region ?_|(refine TL.isStore ?_;(refine TL.storeWh rfl rfl yB (by exact rfl) (by exact rfl) (by exact rfl) ?_;intro w' hu hbk hsz))|(refine TL.isAlloc ?_;(refine TL.alloc rfl rfl ?_;intro bk w' hg hbk hsz hsz'))|refine uptoQ_normal ?_|refine upto_seq ?_)
   obtain ⟨b7,rfl⟩:∃ y,y=bk:=⟨bk,rfl⟩
   obtain ⟨v4,rfl⟩:∃ z,z=w':=⟨w',rfl⟩
   have hg4:Grow v v4:=grow_upd hu (by omega) hg
   have hb7:Blk v4 b7 32 [.int .i64 x.1,.slice ka x.2.1.length kc,.slice va x.2.2.length vc]:=hbk
   have hp4:=hp.grow hg4
   clear hbk hu hg hsz hsz'
   have z4:=hg4.size
   have zv:=hgv.size
   refine TL.isFn 28 ?_
   refine TL.call rfl (used_c hp4.at_ hp4.tab) rfl ?_
   rintro _ v5 ⟨hown5,hg5⟩
   obtain ⟨a1,c1,rfl,hwas⟩:=sl_of_own hown5
   have hp5:=hp4.grow hg5
   have hg45:=hg4.trans hg5
   have z5:=hg45.size
   repeat (first|(refine TL.isMove ?_;refine TL.pure rfl rfl ?_)|(refine TL.isAsg ?_;refine TL.pure rfl rfl ?_)|refine TL.nil ?_|refine T.region ?_|refine uptoQ_normal ?_|refine upto_seq ?_)
   refine TL.isFn 29 ?_
   refine TL.call rfl (depth_c hp5.at_ hr4 hM1) rfl ?_
   rintro _ v6 ⟨rfl,hg6⟩
   have hp6:=hp5.grow hg6
   have hg46:=hg45.trans hg6
   have hlts:=hp.at_.lts
   have hSl:∀ k,v.heap.size≤k→¬ L.S k:=λ k hk=>by unfold PL.S;omega
   have hS0:∀ k,F0 k→¬ L.S k:=λ k hk hS=>by
    have h1:=(hF0 k).1 hk
    unfold PL.S at hS
    have h2:=hL k (by rcases hS with h|h|h<;>simp [h])
    omega
   have hwas6:Sl (λ k=>¬ L.S k) v6 1 a1 (usedL g).length c1 (ints' (usedL g)):=(hwas.grow hg6).mono λ k hk=>hSl k (by have:=hk.1;omega)
   have hb76:=(hb7.grow hg5).grow hg6
   have hks6:=hks.grow hg46
   have hvs6:=hvs.grow hg46
   clear hwas hown5 hg45 hg5 hg6 hp4 hp5 hb7
   repeat (first|(refine TL.isMove ?_;refine TL.pure rfl rfl ?_)|(refine TL.isAsg ?_;refine TL.pure rfl rfl ?_)|refine TL.load1 rfl yM rfl ?_|refine TL.fieldAddr rfl rfl ?_|refine TL.nil ?_|refine thenQ_normal ?_|refine T.seq ?_|refine T.region ?_|(refine TL.isBin ?_;refine TL.pureF rfl yD rfl ?_)|refine T.cond_false rfl ?_|refine T.skip ?_|refine TL.pure rfl rfl ?_|refine uptoQ_normal ?_|refine upto_seq ?_)
   refine TL.isFn 18 ?_
   refine TL.call rfl (pick_c x.1 8 (by omega) (by omega) _) rfl ?_
   rintro _ v6' ⟨⟨r,rfl,hr8⟩,rfl⟩
   by_cases hr4':4≤r
   ·repeat (first|(refine TL.isMove ?_;refine TL.pure rfl rfl ?_)|refine TL.load1 rfl yM rfl ?_|refine TL.fieldAddr rfl rfl ?_|refine TL.nil ?_|refine thenQ_normal ?_|refine T.region ?_|(refine TL.isBin ?_;refine TL.pureT rfl yD rfl ?_)|refine T.cond_true rfl ?_)
    refine TL.isFn 20 ?_
    refine TL.call rfl (own_c _ ka x.2.1.length kc x.2.1 _ hks6 (by omega)) rfl ?_
    rintro vk v7 ⟨hown7,hg7⟩
    obtain ⟨a7,c7,rfl,hs7⟩:=sl_of_own hown7
    repeat (refine T.seq ?_)
    refine TL.isFn 19 ?_
    refine TL.call rfl (del_any (hp6.grow hg7) htr (by omega) hsp a7 x.2.1.length c7 x.2.1 (hs7.mono λ k hk=>hSl k (by have:=hk.1;have:=hg46.size;omega))) rfl ?_
    rintro _ v8 ⟨xv,e,root',g',lv',its',ps',rfl,hor,haft⟩
    have hgL:∀ k,L.S k→w.heap.size≤k:=λ k hk=>hL k (by unfold PL.S at hk;rcases hk with h|h|h<;>simp [h])
    have hgr8:Grow w v8:=grow_many (hgv.trans (hg46.trans hg7)) haft.but hgL
    have z8:=haft.but.size
    have z7:=hg7.size
    have z46:=hg46.size
    have hp8:=haft.pg
    have hwas8:Sl (λ k=>¬ L.S k) v8 1 a1 (usedL g).length c1 (ints' (usedL g)):=(hwas6.grow hg7).go (Carry.buts haft.but λ k hk _=>hk)
    repeat (first|(refine TL.isMove ?_;refine TL.pure rfl rfl ?_)|(refine TL.isAsg ?_;refine TL.pure rfl rfl ?_)|refine TL.nil ?_|refine T.region ?_|refine TL.pure rfl rfl ?_|refine uptoQ_normal ?_|refine upto_seq ?_)
    refine TL.isFn 28 ?_
    refine TL.call rfl (used_c hp8.at_ hp8.tab) rfl ?_
    rintro _ v9 ⟨hown9,hg9⟩
    obtain ⟨a2,c2,rfl,hnow⟩:=sl_of_own hown9
    have hnow9:Sl (λ k=>¬ L.S k) v9 1 a2 (usedL g').length c2 (ints' (usedL g')):=hnow.mono λ k hk=>hSl k (by have:=hk.1;omega)
    have hmid:TkMid w v9 L g lv g' root' lv' its' ps' a1 c1 a2 c2:=⟨hp8.grow hg9,haft.tr,haft.ext,haft.sp,haft.sp2,hwas8.grow hg9,hnow9,hgr8.trans hg9⟩
    rcases hor with ⟨hth,rfl,rfl,rfl⟩|⟨hth,he,_,rfl,rfl,rfl,rfl⟩
    ·repeat (first|(refine TL.isMove ?_;refine TL.pure rfl rfl ?_)|(refine TL.isAsg ?_;refine TL.pure rfl rfl ?_)|refine TL.nil ?_|refine thenQ_normal ?_|refine T.seq ?_|refine T.region ?_|(refine TL.isBin ?_;refine TL.pureF rfl yD rfl ?_)|refine T.cond_false rfl ?_|refine uptoQ_normal ?_|refine upto_seq ?_|refine upto_end ?_)
     exact ⟨g',root',lv',_,ps',a1,c1,a2,c2,⟨rfl,rfl,rfl,rfl,rfl,rfl,rfl,trivial⟩,hmid,by have:=delI_le x.2.1 its;omega⟩
    ·rcases he with rfl|rfl
     ·repeat (first|(refine TL.isMove ?_;refine TL.pure rfl rfl ?_)|(refine TL.isAsg ?_;refine TL.pure rfl rfl ?_)|refine TL.nil ?_|refine thenQ_normal ?_|refine T.seq ?_|refine T.region ?_|(refine TL.isBin ?_;refine TL.pureT rfl yD rfl ?_)|refine T.cond_true rfl ?_|refine uptoQ_normal ?_|refine upto_seq ?_)
      refine TL.isFn 30 ?_
      refine TL.call rfl (ints_c hmid.was hmid.now rfl) rfl ?_
      rintro _ v10 ⟨rfl,hg10⟩
      repeat (first|refine TL.nil ?_|refine thenQ_normal ?_|refine T.cond_false rfl ?_|refine T.skip ?_|refine TL.pure rfl rfl ?_|refine uptoQ_normal ?_|refine upto_end ?_)
      exact ⟨_,_,_,_,ps',a1,c1,a2,c2,⟨rfl,rfl,rfl,rfl,rfl,rfl,rfl,trivial⟩,hmid.grow hg10,by omega⟩
     ·repeat (first|(refine TL.isMove ?_;refine TL.pure rfl rfl ?_)|(refine TL.isAsg ?_;refine TL.pure rfl rfl ?_)|refine TL.nil ?_|refine thenQ_normal ?_|refine T.seq ?_|refine T.region ?_|(refine TL.isBin ?_;refine TL.pureT rfl yD rfl ?_)|refine T.cond_true rfl ?_|refine uptoQ_normal ?_|refine upto_seq ?_)
      refine TL.isFn 30 ?_
      refine TL.call rfl (ints_c hmid.was hmid.now rfl) rfl ?_
      rintro _ v10 ⟨rfl,hg10⟩
      repeat (first|refine TL.nil ?_|refine thenQ_normal ?_|refine T.cond_false rfl ?_|refine T.skip ?_|refine TL.pure rfl rfl ?_|refine uptoQ_normal ?_|refine upto_end ?_)
      exact ⟨_,_,_,_,ps',a1,c1,a2,c2,⟨rfl,rfl,rfl,rfl,rfl,rfl,rfl,trivial⟩,hmid.grow hg10,by omega⟩
   ·repeat (first|refine TL.nil ?_|refine thenQ_normal ?_|(refine TL.isBin ?_;refine TL.pureF rfl yD rfl ?_)|refine T.cond_false rfl ?_)
    obtain ⟨v6,rfl⟩:∃ z,z=v6':=⟨v6',rfl⟩
    have hbq:∀ wq,Grow v6 wq→Blk wq b7 32 [.int .i64 x.1,.slice ka x.2.1.length kc,.slice va x.2.2.length vc]:=λ wq g=>hb76.grow g
    obtain ⟨xv,e,root',g',lv',its',ps',hor,hex,htr',hs1,hs2,hput⟩:=put_det hp.at_.ok htr (by omega) hsp x.2.1 x.2.2 hb1 hb2
    refine T.weaken (e':=[(9,.int .i64 (lv:Int)),(8,.slice a1 (usedL g).length c1),(7,.pointer (some ⟨b7,0,none⟩)),(6,.int .i64 (i:Int)),(5,.int .i64 (rootI root)),(3,.pointer (some ⟨L.p,0,none⟩)),(0,.slice a l.length c)]) ?_ ⟨rfl,rfl,rfl,rfl,rfl,rfl,rfl,trivial⟩
    have hbS:¬ L.S b7:=hSl b7 (by omega)
    have hn6:∀ k,v6.heap.size≤k→¬ L.S k:=λ k hk=>hSl k (by have:=hg46.size;omega)
    apply T.anyA (ButS L.S) 14 8 (λ wq=>PgW wq L g∧Grow v6 wq) (λ wq=>PgW wq L g'∧ButS L.S v6 wq) (λ wq=>ButS L.S v6 wq)
     [isA (.pointer (some ⟨L.p,0,none⟩)),isA (.int .i64 (rootI root)),isA (.pointer (some ⟨b7,1,none⟩)),isA (.slice ka x.2.1.length kc),ownS v6.heap.size 5 1 x.2.1.length (bys x.2.1) hn6,isA (.pointer (some ⟨b7,2,none⟩)),isA (.slice va x.2.2.length vc),ownS v6.heap.size 5 1 x.2.2.length (bys x.2.2) hn6,
      isA (.tuple #[.int .i64 xv,.int .i64 e]),isA (.tuple #[.int .i64 xv,.int .i64 e]),isA (.int .i64 xv),isA (.int .i64 e),isA (.int .i64 xv),isA (.int .i64 e)]
    ·kernel_rfl
    ·exact ⟨hp6,Grow.refl _⟩
    ·exact λ _ h=>ButS.grow h.2
    ·exact λ _ h=>h.2
    ·exact λ _ h=>h.size
    ·exact λ _ _ h g=>⟨h.1.grow g,h.2.trans g⟩
    ·exact λ _ _ h g=>⟨h.1.grow g,h.2.trans (ButS.grow g)⟩
    ·exact λ _ _ h=>h.size
    ·repeat' (first|exact allA_end|refine allA_cons ?_ ?_)
     iterate 3
      ·refine doesA_mk rfl rfl rfl rfl ?_
       intro wq _ _ hiw
       (repeat (refine needA_cons rfl rfl ?_;intro vq hvq;try (obtain rfl:=Eq.symm hvq)));(refine needA_nil ?_)
       repeat (first|(refine TL.isMove ?_;refine TL.pure rfl rfl ?_)|refine TL.fieldAddr rfl rfl ?_|refine TL.nil ?_)
       exact oneA_end rfl (Grow.refl _) rfl
     ·refine doesA_mk rfl rfl rfl rfl ?_
      intro wq _ _ hiw
      (repeat (refine needA_cons rfl rfl ?_;intro vq hvq;try (obtain rfl:=Eq.symm hvq)));(refine needA_nil ?_)
      have hbq1:=blk_buts hb76 hiw hbS
      repeat (first|refine TL.load1 rfl yM rfl ?_|refine TL.nil ?_)
      exact oneA_end rfl (Grow.refl _) rfl
     ·refine doesA_mk rfl rfl rfl rfl ?_
      intro wq _ _ hiw
      (repeat (refine needA_cons rfl rfl ?_;intro vq hvq;try (obtain rfl:=Eq.symm hvq)));(refine needA_nil ?_)
      refine TL.isFn 20 ?_
      refine TL.call rfl (own_c _ ka x.2.1.length kc x.2.1 _ (hks6.go (Carry.buts hiw λ k hk _=>hS0 k hk)) (by omega)) rfl ?_
      rintro vk v7 ⟨hown7,hg7⟩
      repeat (refine TL.nil ?_)
      exact oneA_end rfl hg7 (own_base hown7 hiw.size)
     ·refine doesA_mk rfl rfl rfl rfl ?_
      intro wq _ _ hiw
      (repeat (refine needA_cons rfl rfl ?_;intro vq hvq;try (obtain rfl:=Eq.symm hvq)));(refine needA_nil ?_)
      repeat (first|refine TL.fieldAddr rfl rfl ?_|refine TL.nil ?_)
      exact oneA_end rfl (Grow.refl _) rfl
     ·refine doesA_mk rfl rfl rfl rfl ?_
      intro wq _ _ hiw
      (repeat (refine needA_cons rfl rfl ?_;intro vq hvq;try (obtain rfl:=Eq.symm hvq)));(refine needA_nil ?_)
      have hbq1:=blk_buts hb76 hiw hbS
      repeat (first|refine TL.load1 rfl yM rfl ?_|refine TL.nil ?_)
      exact oneA_end rfl (Grow.refl _) rfl
     ·refine doesA_mk rfl rfl rfl rfl ?_
      intro wq _ _ hiw
      (repeat (refine needA_cons rfl rfl ?_;intro vq hvq;try (obtain rfl:=Eq.symm hvq)));(refine needA_nil ?_)
      refine TL.isFn 20 ?_
      refine TL.call rfl (own_c _ va x.2.2.length vc x.2.2 _ (hvs6.go (Carry.buts hiw λ k hk _=>hS0 k hk)) (by omega)) rfl ?_
      rintro vk v7 ⟨hown7,hg7⟩
      repeat (refine TL.nil ?_)
      exact oneA_end rfl hg7 (own_base hown7 hiw.size)
     ·refine doesA_it rfl rfl rfl rfl ?_
      intro wq _ _ hiw
      refine needA_cons rfl rfl ?_;intro vq1 hvq1
      refine needA_cons rfl rfl ?_;intro vq2 hvq2
      refine needA_cons rfl rfl ?_;intro vq3 hvq3
      refine needA_cons rfl rfl ?_;intro vq4 hvq4
      refine needA_nil ?_
      obtain rfl:=Eq.symm hvq1
      obtain rfl:=Eq.symm hvq2
      have ho3:wq.ownsRow v6.heap.size 5 1 vq3 x.2.1.length (bys x.2.1):=hvq3
      have ho4:wq.ownsRow v6.heap.size 5 1 vq4 x.2.2.length (bys x.2.2):=hvq4
      have z46:=hg46.size
      obtain ⟨a3,c3,rfl,hs3⟩:=sl_of_own ho3
      obtain ⟨a4,c4,rfl,hs4⟩:=sl_of_own ho4
      refine TL.isFn 25 ?_
      refine TL.call rfl (hput hiw.1 a3 a4 x.2.1.length c3 x.2.2.length c4 (hs3.mono λ k hk=>hSl k (by have:=hk.1;omega)) (hs4.mono λ k hk=>hSl k (by have:=hk.1;omega))) rfl ?_
      rintro _ v8 ⟨rfl,hp8,hb8⟩
      repeat (refine TL.nil ?_)
      exact oneA_end rfl ⟨hb8,hp8,(ButS.grow hiw.2).trans hb8⟩ rfl
     iterate 5
      ·refine doesA_mk rfl rfl rfl rfl ?_
       intro wq _ _ hiw
       (repeat (refine needA_cons rfl rfl ?_;intro vq hvq;try (obtain rfl:=Eq.symm hvq)));(refine needA_nil ?_)
       repeat (first|(refine TL.isMove ?_;refine TL.pure rfl rfl ?_)|(refine TL.isAsg ?_;refine TL.pure rfl rfl ?_)|refine TL.nil ?_|refine TL.pure rfl rfl ?_)
       exact oneA_end rfl (Grow.refl _) rfl
    ·rintro v8 lo hi ⟨hp8,hbs8⟩ _ _
     (repeat (refine needA_cons rfl rfl ?_;intro vq hvq;try (obtain rfl:=Eq.symm hvq)));(refine needA_nil ?_)
     have hgL:∀ k,L.S k→w.heap.size≤k:=λ k hk=>hL k (by unfold PL.S at hk;rcases hk with h|h|h<;>simp [h])
     have hgr8:Grow w v8:=grow_many (hgv.trans hg46) hbs8 hgL
     have z8:=hbs8.size
     have z46:=hg46.size
     have hwas8:Sl (λ k=>¬ L.S k) v8 1 a1 (usedL g).length c1 (ints' (usedL g)):=hwas6.go (Carry.buts hbs8 λ k hk _=>hk)
     repeat (first|(refine TL.isMove ?_;refine TL.pure rfl rfl ?_)|refine TL.nil ?_|refine T.region ?_|refine uptoQ_normal ?_|refine upto_seq ?_)
     refine TL.isFn 28 ?_
     refine TL.call rfl (used_c hp8.at_ hp8.tab) rfl ?_
     rintro _ v9 ⟨hown9,hg9⟩
     obtain ⟨a2,c2,rfl,hnow⟩:=sl_of_own hown9
     have hnow9:Sl (λ k=>¬ L.S k) v9 1 a2 (usedL g').length c2 (ints' (usedL g')):=hnow.mono λ k hk=>hSl k (by have:=hk.1;omega)
     have hmid:TkMid w v9 L g lv g' root' lv' its' ps' a1 c1 a2 c2:=⟨hp8.grow hg9,htr',hex,hs1,hs2,hwas8.grow hg9,hnow9,hgr8.trans hg9⟩
     rcases hor with ⟨hth,rfl,rfl,rfl⟩|⟨hth,rfl,rfl,rfl,rfl,rfl⟩
     ·repeat (first|(refine TL.isMove ?_;refine TL.pure rfl rfl ?_)|(refine TL.isAsg ?_;refine TL.pure rfl rfl ?_)|refine TL.nil ?_|refine thenQ_normal ?_|refine T.seq ?_|refine T.region ?_|(refine TL.isBin ?_;refine TL.pureF rfl yD rfl ?_)|refine T.cond_false rfl ?_|refine uptoQ_normal ?_|refine upto_seq ?_|refine upto_end ?_)
      exact ⟨g',root',lv',_,ps',a1,c1,a2,c2,⟨rfl,rfl,rfl,rfl,rfl,rfl,rfl,trivial⟩,hmid,by have:=(insI_len x.2.1 x.2.2 its).2;omega⟩
     ·repeat (first|(refine TL.isMove ?_;refine TL.pure rfl rfl ?_)|(refine TL.isAsg ?_;refine TL.pure rfl rfl ?_)|refine TL.nil ?_|refine thenQ_normal ?_|refine T.seq ?_|refine T.region ?_|(refine TL.isBin ?_;refine TL.pureT rfl yD rfl ?_)|refine T.cond_true rfl ?_|refine uptoQ_normal ?_|refine upto_seq ?_)
      refine TL.isFn 30 ?_
      refine TL.call rfl (ints_c hmid.was hmid.now rfl) rfl ?_
      rintro _ v10 ⟨rfl,hg10⟩
      repeat (first|refine TL.nil ?_|refine thenQ_normal ?_|refine T.cond_false rfl ?_|refine T.skip ?_|refine TL.pure rfl rfl ?_|refine uptoQ_normal ?_|refine upto_end ?_)
      exact ⟨_,_,_,_,ps',a1,c1,a2,c2,⟨rfl,rfl,rfl,rfl,rfl,rfl,rfl,trivial⟩,hmid.grow hg10,by omega⟩
  rintro e1 v1 ⟨g',root',lv',its',ps',a1,c1,a2,c2,hsub,hm,hil'⟩
  refine T.weaken (e':=[(12,.slice a2 (usedL g').length c2),(9,.int .i64 (lv:Int)),(8,.slice a1 (usedL g).length c1),(6,.int .i64 (i:Int)),(5,.int .i64 (rootI root')),(3,.pointer (some ⟨L.p,0,none⟩)),(0,.slice a l.length c)]) ?_ hsub
  clear hsub e1 hkx hvx hks hvs f0 f1 f2 hsv hx1 hx2 hb1 hb2 hk1 hk2
  have q1:=ext_len hm.ext
  have q2:=hm.ext.grown hm.sp
  have q3:=usedL_le (g:=g) (by omega)
  have q4:g'.count=200:=hm.ext.count.trans hcnt
  have q5:=usedL_le (g:=g') (by omega)
  have hz1:v1.heap.size≤v1.heap.size:=Nat.le_refl _
  repeat (first|(refine TL.isMove ?_;refine TL.pure rfl rfl ?_)|(refine TL.isAsg ?_;refine TL.pure rfl rfl ?_)|(refine TL.isAdd ?_;refine TL.addN rfl rfl (by omega) rfl ?_)|(refine TL.isSub ?_;refine TL.subN rfl rfl (by omega) (by omega) rfl ?_)|(refine TL.isMul ?_;refine TL.mulN rfl rfl (by omega) rfl ?_)|refine TL.nil ?_|refine thenQ_normal ?_|refine T.seq ?_|refine T.region ?_|refine T.block ?_|(refine TL.isBin ?_;refine TL.pureF rfl yD rfl ?_)|refine TL.len_slice rfl rfl ?_|refine T.cond_false rfl ?_|refine T.skip ?_)
  refine T.loop (S:=Nat×Nat) (λ q=>[(14,.int .i64 (q.1:Int)),(13,.int .i64 (q.2:Int)),(12,.slice a2 (usedL g').length c2),(8,.slice a1 (usedL g).length c1),(6,.int .i64 (i:Int)),(5,.int .i64 (rootI root')),(3,.pointer (some ⟨L.p,0,none⟩)),(0,.slice a l.length c)])
   (λ q v2=>q.1≤(usedL g).length∧q.2≤(usedL g').length∧(∀ (s x:Nat),s<q.2→(usedL g')[s]? = some x→∀ (j' y:Nat),q.1≤j'→(usedL g)[j']? = some y→x<y)∧Grow v1 v2)
   (λ q=>(usedL g).length-q.1) (0,0) ⟨rfl,rfl,rfl,rfl,rfl,rfl,rfl,rfl,trivial⟩ ⟨Nat.zero_le _,Nat.zero_le _,(λ s x hs=>absurd hs (Nat.not_lt_zero _)),Grow.refl _⟩ ?_
  rintro ⟨j,k⟩ v2 ⟨hj,hk,hlow,hg12⟩
  simp only at hj hk hlow
  refine T.weaken (e':=[(14,.int .i64 (j:Int)),(13,.int .i64 (k:Int)),(12,.slice a2 (usedL g').length c2),(8,.slice a1 (usedL g).length c1),(6,.int .i64 (i:Int)),(5,.int .i64 (rootI root')),(3,.pointer (some ⟨L.p,0,none⟩)),(0,.slice a l.length c)]) ?_ ⟨rfl,rfl,rfl,rfl,rfl,rfl,rfl,rfl,trivial⟩
  by_cases hjl:j<(usedL g).length
  ·obtain ⟨y,hy⟩:∃ q,(usedL g)[j]? = some q:=⟨_,List.getElem?_eq_getElem hjl⟩
   repeat (first|(refine TL.isMove ?_;refine TL.pure rfl rfl ?_)|refine TL.nil ?_|refine thenQ_normal ?_|refine T.seq ?_|refine T.region ?_|refine T.block ?_|(refine TL.isBin ?_;refine TL.pureT rfl yD rfl ?_)|refine TL.len_slice rfl rfl ?_|refine T.cond_true rfl ?_|refine T.skip ?_)
   refine T.loop (S:=Nat) (λ k=>[(14,.int .i64 (j:Int)),(13,.int .i64 (k:Int)),(12,.slice a2 (usedL g').length c2),(8,.slice a1 (usedL g).length c1),(6,.int .i64 (i:Int)),(5,.int .i64 (rootI root')),(3,.pointer (some ⟨L.p,0,none⟩)),(0,.slice a l.length c)])
    (λ k v2=>k≤(usedL g').length∧(∀ (s x:Nat),s<k→(usedL g')[s]? = some x→∀ (j' y:Nat),j≤j'→(usedL g)[j']? = some y→x<y)∧Grow v1 v2)
    (λ k=>(usedL g').length-k) k ⟨rfl,rfl,rfl,rfl,rfl,rfl,rfl,rfl,trivial⟩ ⟨hk,hlow,hg12⟩ ?_
   clear hlow hk hg12
   rintro k v2 ⟨hk,hlow,hg12⟩
   have hnow:∀ wq,Grow v2 wq→Sl (λ k=>¬ L.S k) wq 1 a2 (usedL g').length c2 (ints' (usedL g')):=λ wq iq=>hm.now.grow (hg12.trans iq)
   have hwas:∀ wq,Grow v2 wq→Sl (λ k=>¬ L.S k) wq 1 a1 (usedL g).length c1 (ints' (usedL g)):=λ wq iq=>hm.was.grow (hg12.trans iq)
   have hcy:∀ wq,Grow v2 wq→wq.cell? (at' a1 j)=some (.int .i64 (y:Int)):=λ wq iq=>(hwas wq iq).row.cell (by simp [ints',hy])
   obtain ⟨s,hs'⟩:=hm.ext.list hy
   have hsk:k≤s:=by
    rcases Nat.lt_or_ge s k with h|h
    ·have:=hlow s y h hs' j y (Nat.le_refl _) hy;omega
    ·exact h
   have hsl:s<(usedL g').length:=(List.getElem?_eq_some_iff.1 hs').1
   have hkl:k<(usedL g').length:=by omega
   obtain ⟨x,hx⟩:∃ q,(usedL g')[k]? = some q:=⟨_,List.getElem?_eq_getElem hkl⟩
   have hcx:∀ wq,Grow v2 wq→wq.cell? (at' a2 k)=some (.int .i64 (x:Int)):=λ wq iq=>(hnow wq iq).row.cell (by simp [ints',hx])
   by_cases hxy:x<y
   ·refine T.seq (T.seq ?_)
    apply T.det 15 [.int .i64 (k:Int),.slice a2 (usedL g').length c2,.int .i64 ((usedL g').length:Int),.bool true,.bool true,.slice a2 (usedL g').length c2,.int .i64 (k:Int),.pointer (some (at' a2 k)),.int .i64 (x:Int),.slice a1 (usedL g).length c1,.int .i64 (j:Int),.pointer (some (at' a1 j)),.int .i64 (y:Int),.bool true,.bool true] (λ wq=>Grow v2 wq)
    ·rfl
    ·exact λ _ h=>h
    ·repeat' (first|exact allDet_end|refine allDet_cons ?_ ?_)
     iterate 7
      ·first|refine det_mk rfl rfl rfl ?_|refine det_mkG rfl rfl rfl ?_
       intro wq iq
       repeat (first|refine TL.guard_run rfl rfl rfl ?_|(refine TL.isMove ?_;refine TL.pure rfl rfl ?_)|refine TL.nil ?_|(refine TL.isBin ?_;refine TL.pureT rfl yD rfl ?_)|refine TL.len_slice rfl rfl ?_)
       exact det_end rfl iq
     iterate 1
      ·refine det_mkG rfl rfl rfl ?_
       intro wq iq
       repeat (first|(refine TL.isIndex ?_;refine TL.indexAddr (j:=k) rfl rfl rfl hkl (Nat.mul_one _) ⟨_,_,hnow wq iq⟩ rfl ?_)|refine TL.guard_run rfl rfl rfl ?_|refine TL.nil ?_)
       exact det_end rfl iq
     iterate 1
      ·refine det_mkG rfl rfl rfl ?_
       intro wq iq
       have hc:=hcx wq iq
       repeat (first|refine TL.guard_run rfl rfl rfl ?_|refine TL.load1 rfl yM rfl ?_|refine TL.nil ?_)
       exact det_end rfl iq
     iterate 2
      ·refine det_mkG rfl rfl rfl ?_
       intro wq iq
       repeat (first|refine TL.guard_run rfl rfl rfl ?_|(refine TL.isMove ?_;refine TL.pure rfl rfl ?_)|refine TL.nil ?_)
       exact det_end rfl iq
     iterate 1
      ·refine det_mkG rfl rfl rfl ?_
       intro wq iq
       repeat (first|(refine TL.isIndex ?_;refine TL.indexAddr (j:=j) rfl rfl rfl hjl (Nat.mul_one _) ⟨_,_,hwas wq iq⟩ rfl ?_)|refine TL.guard_run rfl rfl rfl ?_|refine TL.nil ?_)
       exact det_end rfl iq
     iterate 1
      ·refine det_mkG rfl rfl rfl ?_
       intro wq iq
       have hc:=hcy wq iq
       repeat (first|refine TL.guard_run rfl rfl rfl ?_|refine TL.load1 rfl yM rfl ?_|refine TL.nil ?_)
       exact det_end rfl iq
     iterate 2
      ·first|refine det_mk rfl rfl rfl ?_|refine det_mkG rfl rfl rfl ?_
       intro wq iq
       repeat (first|refine TL.guard_run rfl rfl rfl ?_|refine TL.nil ?_|(refine TL.isBin ?_;refine TL.pureT rfl yD rfl ?_)|refine TL.pure rfl rfl ?_)
       exact det_end rfl iq
    intro v3 hg3
    repeat (first|(refine TL.isMove ?_;refine TL.pure rfl rfl ?_)|(refine TL.isAsg ?_;refine TL.pure rfl rfl ?_)|(refine TL.isAdd ?_;refine TL.addN rfl rfl (by omega) rfl ?_)|refine TL.nil ?_|refine thenQ_normal ?_|refine T.region ?_|refine T.block ?_|refine blockQ_normal ?_|refine T.cond_true rfl ?_|refine T.skip ?_)
    refine loopQ_normal (k+1) ⟨rfl,rfl,rfl,rfl,rfl,rfl,rfl,rfl,trivial⟩ ⟨by omega,λ s1 x1 h1 hx1 j' y' hj' hy'=>?_,hg12.trans hg3⟩ (by omega)
    by_cases hs1:s1=k
    ·subst hs1
     rw [hx] at hx1
     cases hx1
     by_cases hjj:j'=j
     ·subst hjj;rw [hy] at hy';cases hy';exact hxy
     ·have:=usedL_at (show j<j' by omega) hy hy';omega
    ·exact hlow s1 x1 (by omega) hx1 j' y' hj' hy'
   ·have hks:k=s:=by
     by_cases h:k=s
     ·exact h
     ·have:=usedL_at (show k<s by omega) hx hs';omega
    subst hks
    rw [hx] at hs'
    have hxe:=Option.some.inj hs'
    subst hxe
    refine T.seq (T.seq ?_)
    apply T.det 15 [.int .i64 (k:Int),.slice a2 (usedL g').length c2,.int .i64 ((usedL g').length:Int),.bool true,.bool true,.slice a2 (usedL g').length c2,.int .i64 (k:Int),.pointer (some (at' a2 k)),.int .i64 (x:Int),.slice a1 (usedL g).length c1,.int .i64 (j:Int),.pointer (some (at' a1 j)),.int .i64 (x:Int),.bool false,.bool false] (λ wq=>Grow v2 wq)
    ·rfl
    ·exact λ _ h=>h
    ·repeat' (first|exact allDet_end|refine allDet_cons ?_ ?_)
     iterate 7
      ·first|refine det_mk rfl rfl rfl ?_|refine det_mkG rfl rfl rfl ?_
       intro wq iq
       repeat (first|refine TL.guard_run rfl rfl rfl ?_|(refine TL.isMove ?_;refine TL.pure rfl rfl ?_)|refine TL.nil ?_|(refine TL.isBin ?_;refine TL.pureT rfl yD rfl ?_)|refine TL.len_slice rfl rfl ?_)
       exact det_end rfl iq
     iterate 1
      ·refine det_mkG rfl rfl rfl ?_
       intro wq iq
       repeat (first|(refine TL.isIndex ?_;refine TL.indexAddr (j:=k) rfl rfl rfl hkl (Nat.mul_one _) ⟨_,_,hnow wq iq⟩ rfl ?_)|refine TL.guard_run rfl rfl rfl ?_|refine TL.nil ?_)
       exact det_end rfl iq
     iterate 1
      ·refine det_mkG rfl rfl rfl ?_
       intro wq iq
       have hc:=hcx wq iq
       repeat (first|refine TL.guard_run rfl rfl rfl ?_|refine TL.load1 rfl yM rfl ?_|refine TL.nil ?_)
       exact det_end rfl iq
     iterate 2
      ·refine det_mkG rfl rfl rfl ?_
       intro wq iq
       repeat (first|refine TL.guard_run rfl rfl rfl ?_|(refine TL.isMove ?_;refine TL.pure rfl rfl ?_)|refine TL.nil ?_)
       exact det_end rfl iq
     iterate 1
      ·refine det_mkG rfl rfl rfl ?_
       intro wq iq
       repeat (first|(refine TL.isIndex ?_;refine TL.indexAddr (j:=j) rfl rfl rfl hjl (Nat.mul_one _) ⟨_,_,hwas wq iq⟩ rfl ?_)|refine TL.guard_run rfl rfl rfl ?_|refine TL.nil ?_)
       exact det_end rfl iq
     iterate 1
      ·refine det_mkG rfl rfl rfl ?_
       intro wq iq
       have hc:=hcy wq iq
       repeat (first|refine TL.guard_run rfl rfl rfl ?_|refine TL.load1 rfl yM rfl ?_|refine TL.nil ?_)
       exact det_end rfl iq
     iterate 2
      ·first|refine det_mk rfl rfl rfl ?_|refine det_mkG rfl rfl rfl ?_
       intro wq iq
       repeat (first|refine TL.guard_run rfl rfl rfl ?_|refine TL.nil ?_|(refine TL.isBin ?_;refine TL.pureF rfl yD rfl ?_)|refine TL.pure rfl rfl ?_)
       exact det_end rfl iq
    intro v3 hg3
    have hke:(((k:Nat):Int)==(((usedL g').length:Nat):Int))=false:=by rw [beq_eq_false_iff_ne];omega
    have hxx:(((x:Nat):Int) != ((x:Nat):Int))=false:=by simp
    have hg13:=hg12.trans hg3
    repeat (first|refine TL.nil ?_|refine thenQ_normal ?_|refine T.seq ?_|refine T.cond_false rfl ?_|refine T.exit ?_|refine thenQ_exit ?_|refine blockQ_hit ?_|refine loopQ_exit ?_)
    refine T.weaken (e':=[(14,.int .i64 (j:Int)),(13,.int .i64 (k:Int)),(12,.slice a2 (usedL g').length c2),(8,.slice a1 (usedL g).length c1),(6,.int .i64 (i:Int)),(5,.int .i64 (rootI root')),(3,.pointer (some ⟨L.p,0,none⟩)),(0,.slice a l.length c)]) ?_ ⟨rfl,rfl,rfl,rfl,rfl,rfl,rfl,rfl,trivial⟩
    apply T.det 15 [.int .i64 (k:Int),.slice a2 (usedL g').length c2,.int .i64 ((usedL g').length:Int),.bool false,.bool false,.slice a2 (usedL g').length c2,.int .i64 (k:Int),.pointer (some (at' a2 k)),.int .i64 (x:Int),.slice a1 (usedL g).length c1,.int .i64 (j:Int),.pointer (some (at' a1 j)),.int .i64 (x:Int),.bool false,.bool false] (λ wq=>Grow v3 wq)
    ·rfl
    ·exact λ _ h=>h
    ·repeat' (first|exact allDet_end|refine allDet_cons ?_ ?_)
     iterate 3
      ·refine det_mk rfl rfl rfl ?_
       intro wq iq
       repeat (first|(refine TL.isMove ?_;refine TL.pure rfl rfl ?_)|refine TL.nil ?_|refine TL.len_slice rfl rfl ?_)
       exact det_end rfl iq
     iterate 1
      ·refine det_mk rfl rfl rfl ?_
       intro wq iq
       repeat (first|refine TL.nil ?_|(refine TL.isBin ?_;refine TL.pureF rfl yD rfl ?_))
       exact det_end rfl iq
     iterate 3
      ·first|refine det_mk rfl rfl rfl ?_|refine det_mkG rfl rfl rfl ?_
       intro wq iq
       repeat (first|refine TL.guard_run rfl rfl rfl ?_|(refine TL.isMove ?_;refine TL.pure rfl rfl ?_)|refine TL.nil ?_)
       exact det_end rfl iq
     iterate 1
      ·refine det_mkG rfl rfl rfl ?_
       intro wq iq
       repeat (first|(refine TL.isIndex ?_;refine TL.indexAddr (j:=k) rfl rfl rfl hkl (Nat.mul_one _) ⟨_,_,hnow wq (hg3.trans iq)⟩ rfl ?_)|refine TL.guard_run rfl rfl rfl ?_|refine TL.nil ?_)
       exact det_end rfl iq
     iterate 1
      ·refine det_mkG rfl rfl rfl ?_
       intro wq iq
       have hc:=hcx wq (hg3.trans iq)
       repeat (first|refine TL.guard_run rfl rfl rfl ?_|refine TL.load1 rfl yM rfl ?_|refine TL.nil ?_)
       exact det_end rfl iq
     iterate 2
      ·refine det_mkG rfl rfl rfl ?_
       intro wq iq
       repeat (first|refine TL.guard_run rfl rfl rfl ?_|(refine TL.isMove ?_;refine TL.pure rfl rfl ?_)|refine TL.nil ?_)
       exact det_end rfl iq
     iterate 1
      ·refine det_mkG rfl rfl rfl ?_
       intro wq iq
       repeat (first|(refine TL.isIndex ?_;refine TL.indexAddr (j:=j) rfl rfl rfl hjl (Nat.mul_one _) ⟨_,_,hwas wq (hg3.trans iq)⟩ rfl ?_)|refine TL.guard_run rfl rfl rfl ?_|refine TL.nil ?_)
       exact det_end rfl iq
     iterate 1
      ·refine det_mkG rfl rfl rfl ?_
       intro wq iq
       have hc:=hcy wq (hg3.trans iq)
       repeat (first|refine TL.guard_run rfl rfl rfl ?_|refine TL.load1 rfl yM rfl ?_|refine TL.nil ?_)
       exact det_end rfl iq
     iterate 1
      ·refine det_mkG rfl rfl rfl ?_
       intro wq iq
       repeat (first|refine TL.guard_run rfl rfl rfl ?_|refine TL.nil ?_|(refine TL.isBin ?_;refine TL.pureF rfl yD rfl ?_))
       exact det_end rfl iq
     iterate 1
      ·refine det_mk rfl rfl rfl ?_
       intro wq iq
       repeat (first|refine TL.nil ?_|refine TL.pure rfl rfl ?_)
       exact det_end rfl iq
    intro v4 hg4
    repeat (first|(refine TL.isMove ?_;refine TL.pure rfl rfl ?_)|(refine TL.isAsg ?_;refine TL.pure rfl rfl ?_)|(refine TL.isAdd ?_;refine TL.addN rfl rfl (by omega) rfl ?_)|refine TL.nil ?_|refine thenQ_normal ?_|refine T.region ?_|refine blockQ_normal ?_|refine T.cond_false rfl ?_|refine T.skip ?_)
    refine loopQ_normal (j+1,k) ⟨rfl,rfl,rfl,rfl,rfl,rfl,rfl,rfl,trivial⟩ ⟨by simp only;omega,hk,λ s1 x1 h1 hx1 j' y' hj' hy'=>hlow s1 x1 h1 hx1 j' y' (by simp only at hj';omega) hy',hg13.trans hg4⟩ (by simp only;omega)
  have hm2:=hm.grow hg12
  clear hm hlow hg12 q1 q2
  obtain ⟨M2,hM2,hd2,hp2⟩:=tree_tr hm2.tr (by have:=hm2.tr.levels (k:=3) (by omega) (by omega);omega)
  have hlv':lv'≤3:=hm2.tr.levels (k:=3) (by omega) (by omega)
  have hr4:∀ n,root'=some n→n<4294967296:=λ n hn=>by
   have:=usedP_lt (hm2.tr.root_used n hn)
   omega
  have hmany:=λ h=>hm2.tr.many (lv:=lv') h
  repeat (first|(refine TL.isMove ?_;refine TL.pure rfl rfl ?_)|refine TL.nil ?_|refine thenQ_normal ?_|refine T.seq ?_|refine T.region ?_|(refine TL.isBin ?_;refine TL.pureF rfl yD rfl ?_)|refine TL.len_slice rfl rfl ?_|refine T.cond_false rfl ?_|refine T.exit ?_|refine thenQ_exit ?_|refine blockQ_hit ?_|refine loopQ_exit ?_)
  refine TL.isFn 27 ?_
  refine TL.call rfl (all_c hm2.pg.at_ hr4 hM2 its' (by omega) hd2 (λ e=>by have:=hm2.tr;rw [e] at this;exact this.2.1)) rfl ?_
  rintro _ v3 ⟨⟨aa,ca,rfl,hall⟩,hg3⟩
  have hm3:=hm2.grow hg3
  repeat (first|(refine TL.isMove ?_;refine TL.pure rfl rfl ?_)|(refine TL.isAsg ?_;refine TL.pure rfl rfl ?_)|refine TL.nil ?_|refine thenQ_normal ?_|refine T.seq ?_|refine T.region ?_|refine TL.pure rfl rfl ?_)
  refine TL.isFn 29 ?_
  refine TL.call rfl (depth_c hm3.pg.at_ hr4 hM2) rfl ?_
  rintro _ v4 ⟨rfl,hg4⟩
  have hm4:=hm3.grow hg4
  clear hm2 hm3 hall hg3 hg4
  repeat (first|(refine TL.isMove ?_;refine TL.pure rfl rfl ?_)|(refine TL.isAsg ?_;refine TL.pure rfl rfl ?_)|refine TL.nil ?_|refine thenQ_normal ?_|refine T.seq ?_|refine T.region ?_|refine T.block ?_|refine TL.pure rfl rfl ?_)
  have hp3:∀ s,s≤3→4^s≤64:=λ s h=>Nat.le_trans (Nat.pow_le_pow_right (by decide) h) (by decide)
  refine T.loop (S:=Nat×Nat) (λ q=>[(19,.int .i64 ((q.1+1:Nat):Int)),(18,.int .i64 (q.2:Int)),(17,.int .i64 0),(16,.int .i64 (lv':Int)),(15,.slice aa its'.length ca),(10,.int .i64 0),(6,.int .i64 (i:Int)),(5,.int .i64 (rootI root')),(3,.pointer (some ⟨L.p,0,none⟩)),(0,.slice a l.length c)])
   (λ q v5=>q.2=4^q.1∧(q.1=0∨q.1+1≤lv')∧v4=v5) (λ q=>3-q.1) (0,1) ⟨rfl,rfl,rfl,rfl,rfl,rfl,rfl,rfl,rfl,rfl,trivial⟩ ⟨rfl,.inl rfl,rfl⟩ ?_
  rintro ⟨s,pw⟩ v5 ⟨hpw,hs1,rfl⟩
  simp only at hpw hs1
  have hs3:s≤3:=by omega
  have hpl:=hp3 s hs3
  rw [← hpw] at hpl
  refine T.weaken (e':=[(19,.int .i64 ((s+1:Nat):Int)),(18,.int .i64 (pw:Int)),(17,.int .i64 0),(16,.int .i64 (lv':Int)),(15,.slice aa its'.length ca),(10,.int .i64 0),(6,.int .i64 (i:Int)),(5,.int .i64 (rootI root')),(3,.pointer (some ⟨L.p,0,none⟩)),(0,.slice a l.length c)]) ?_ ⟨rfl,rfl,rfl,rfl,rfl,rfl,rfl,rfl,rfl,rfl,trivial⟩
  by_cases hsl:s+1<lv'
  ·repeat (first|(refine TL.isMul ?_;refine TL.mulN (a:=4) rfl rfl (by omega) rfl ?_)|(refine TL.isMove ?_;refine TL.pure rfl rfl ?_)|(refine TL.isAsg ?_;refine TL.pure rfl rfl ?_)|(refine TL.isAdd ?_;refine TL.addN rfl rfl (by omega) rfl ?_)|refine TL.nil ?_|refine thenQ_normal ?_|refine T.seq ?_|refine T.region ?_|refine T.block ?_|refine blockQ_normal ?_|(refine TL.isBin ?_;refine TL.pureT rfl yD rfl ?_)|refine T.cond_true rfl ?_|refine T.skip ?_)
   exact loopQ_normal (s+1,4*pw) ⟨rfl,rfl,rfl,rfl,rfl,rfl,rfl,rfl,rfl,rfl,trivial⟩ ⟨by simp only;rw [hpw,Nat.pow_succ,Nat.mul_comm],.inr (by simp only;omega),rfl⟩ (by simp only;omega)
  have hend:1<lv'→2*pw≤its'.length:=λ h=>by
   have h1:=hm4.tr.many (by omega)
   rw [show lv'-1=s by omega,← hpw] at h1
   exact h1
  refine T.weaken (e':=[(18,.int .i64 (pw:Int)),(17,.int .i64 0),(16,.int .i64 (lv':Int)),(15,.slice aa its'.length ca),(10,.int .i64 0),(6,.int .i64 (i:Int)),(5,.int .i64 (rootI root')),(3,.pointer (some ⟨L.p,0,none⟩)),(0,.slice a l.length c),(19,.int .i64 ((s+1:Nat):Int))]) ?_ ⟨rfl,rfl,rfl,rfl,rfl,rfl,rfl,rfl,rfl,rfl,trivial⟩
  clear hmany hpw hs1 hs3
  by_cases hd1:1<lv'
  ·have hend2:=hend hd1
   repeat (first|(refine TL.isMul ?_;refine TL.mulN (a:=2) rfl rfl (by omega) rfl ?_)|refine TL.guard_run rfl rfl rfl ?_|(refine TL.isMove ?_;refine TL.pure rfl rfl ?_)|refine TL.nil ?_|refine thenQ_normal ?_|refine T.seq ?_|refine T.region ?_|(refine TL.isBin ?_;first|refine TL.pureT rfl yD rfl ?_|refine TL.pureF rfl yD rfl ?_)|refine TL.len_slice rfl rfl ?_|refine T.cond_false rfl ?_|refine T.skip ?_|refine T.exit ?_|refine thenQ_exit ?_|refine blockQ_hit ?_|refine loopQ_exit ?_|refine TL.pure rfl rfl ?_)
   refine TL.isFn 21 ?_
   refine TL.call rfl (sparet_c hm4.pg.at_) rfl ?_
   rintro _ v6 ⟨rfl,hg6⟩
   have hm6:=hm4.grow hg6
   have hsc:spareP g'≤200:=by unfold spareP;omega
   by_cases hs32:spareP g'<32
   ·repeat (first|(refine TL.isMove ?_;refine TL.pure rfl rfl ?_)|refine TL.nil ?_|refine thenQ_normal ?_|refine T.seq ?_|refine T.region ?_|(refine TL.isBin ?_;refine TL.pureT rfl yD rfl ?_)|refine T.cond_true rfl ?_)
    refine TL.isFn 22 ?_
    refine TL.call rfl (reach_c hm6.pg.at_ hr4 hM2 hp2 (by have:=hm6.tr.pages;omega)) rfl ?_
    rintro _ v7 ⟨ls,ar,cr,rfl,hsr,hls,hln,hg7⟩
    have hm7:=hm6.grow hg7
    repeat (first|(refine TL.isMove ?_;refine TL.pure rfl rfl ?_)|(refine TL.isAsg ?_;refine TL.pure rfl rfl ?_)|refine TL.nil ?_|refine thenQ_normal ?_|refine T.region ?_|refine TL.pure rfl rfl ?_)
    have hlu:∀ q∈ls,usedP g' q=true:=λ q hq=>hm7.tr.used q ((hls q).1 hq)
    have hpg:=hm7.tr.pages
    refine TL.isFn 23 ?_
    refine TL.call rfl (keep_c hm7.pg.at_ hsr (λ k hk=>hk.2) hlu (by omega)) rfl ?_
    rintro _ v8 ⟨L',e1,e2,e3,e4,e5,⟨kk,rfl⟩,hp8,hb8⟩
    have hlts:=hm7.pg.at_.lts
    have hg8:Grow w v8:=grow_many hm7.gr hb8 λ k hk=>hL k (.inl hk)
    have hz7:=hm7.gr.size
    have hLn:∀ b,b=L'.p∨b=L'.d∨b=L'.u∨b=L'.m→w.heap.size≤b:=λ b hb=>by
     rcases hb with hb|hb|hb|hb
     ·rw [hb,e1];exact hL _ (by simp)
     ·rw [hb,e2];exact hL _ (by simp)
     ·omega
     ·rw [hb,e3];exact hL _ (by simp)
    have hpw8:PgW v8 L' (keepP g' ls):=⟨hp8,hm7.pg.tab.buts hb8 (λ h=>by have:=hL L.p (by simp);omega),λ h=>by
     unfold PL.S at h
     have:=hLn 0 (by rcases h with h|h|h<;>simp [← h])
     omega⟩
    have hks:=keep_spare hm7.pg.at_.ok hlu
    repeat (first|(refine TL.isMove ?_;refine TL.pure rfl rfl ?_)|(refine TL.isAsg ?_;refine TL.pure rfl rfl ?_)|(refine TL.isAdd ?_;refine TL.addN rfl rfl (by omega) rfl ?_)|refine TL.nil ?_|refine thenQ_normal ?_|refine T.region ?_|refine blockQ_normal ?_)
    refine loopQ_normal (i+1,L',keepP g' ls,root') ⟨rfl,rfl,by rw [← hLp];rfl,rfl,trivial⟩ ⟨by simp only;omega,by simp only;rw [e1,hLp],hpw8,hLn,⟨lv',its',ps',hm7.tr.keep hm7.pg.at_.ok hlu (λ p hp=>(hls p).2 hp),hil'⟩,by simp only;omega,q4,hg8⟩ (by simp only;omega)
   ·repeat (first|(refine TL.isMove ?_;refine TL.pure rfl rfl ?_)|(refine TL.isAsg ?_;refine TL.pure rfl rfl ?_)|(refine TL.isAdd ?_;refine TL.addN rfl rfl (by omega) rfl ?_)|refine TL.nil ?_|refine thenQ_normal ?_|refine T.region ?_|refine blockQ_normal ?_|(refine TL.isBin ?_;refine TL.pureF rfl yD rfl ?_)|refine T.cond_false rfl ?_|refine T.skip ?_)
    refine loopQ_normal (i+1,L,g',root') ⟨rfl,rfl,by rw [← hLp];rfl,rfl,trivial⟩ ⟨by simp only;omega,hLp,hm6.pg,hL,⟨lv',its',ps',hm6.tr,hil'⟩,by simp only;omega,q4,hm6.gr⟩ (by simp only;omega)
  ·repeat (first|(refine TL.isGuard ?_;first|refine TL.guard_skip rfl rfl rfl ?_|refine TL.guard_run rfl rfl rfl ?_)|(refine TL.isMove ?_;refine TL.pure rfl rfl ?_)|refine TL.nil ?_|refine thenQ_normal ?_|refine T.seq ?_|refine T.region ?_|(refine TL.isBin ?_;refine TL.pureF rfl yD rfl ?_)|refine T.cond_false rfl ?_|refine T.skip ?_|refine T.exit ?_|refine thenQ_exit ?_|refine blockQ_hit ?_|refine loopQ_exit ?_|refine TL.pure rfl rfl ?_)
   refine TL.isFn 21 ?_
   refine TL.call rfl (sparet_c hm4.pg.at_) rfl ?_
   rintro _ v6 ⟨rfl,hg6⟩
   have hm6:=hm4.grow hg6
   have hsc:spareP g'≤200:=by unfold spareP;omega
   by_cases hs32:spareP g'<32
   ·repeat (first|(refine TL.isMove ?_;refine TL.pure rfl rfl ?_)|refine TL.nil ?_|refine thenQ_normal ?_|refine T.seq ?_|refine T.region ?_|(refine TL.isBin ?_;refine TL.pureT rfl yD rfl ?_)|refine T.cond_true rfl ?_)
    refine TL.isFn 22 ?_
    refine TL.call rfl (reach_c hm6.pg.at_ hr4 hM2 hp2 (by have:=hm6.tr.pages;omega)) rfl ?_
    rintro _ v7 ⟨ls,ar,cr,rfl,hsr,hls,hln,hg7⟩
    have hm7:=hm6.grow hg7
    repeat (first|(refine TL.isMove ?_;refine TL.pure rfl rfl ?_)|(refine TL.isAsg ?_;refine TL.pure rfl rfl ?_)|refine TL.nil ?_|refine thenQ_normal ?_|refine T.region ?_|refine TL.pure rfl rfl ?_)
    have hlu:∀ q∈ls,usedP g' q=true:=λ q hq=>hm7.tr.used q ((hls q).1 hq)
    have hpg:=hm7.tr.pages
    refine TL.isFn 23 ?_
    refine TL.call rfl (keep_c hm7.pg.at_ hsr (λ k hk=>hk.2) hlu (by omega)) rfl ?_
    rintro _ v8 ⟨L',e1,e2,e3,e4,e5,⟨kk,rfl⟩,hp8,hb8⟩
    have hlts:=hm7.pg.at_.lts
    have hg8:Grow w v8:=grow_many hm7.gr hb8 λ k hk=>hL k (.inl hk)
    have hz7:=hm7.gr.size
    have hLn:∀ b,b=L'.p∨b=L'.d∨b=L'.u∨b=L'.m→w.heap.size≤b:=λ b hb=>by
     rcases hb with hb|hb|hb|hb
     ·rw [hb,e1];exact hL _ (by simp)
     ·rw [hb,e2];exact hL _ (by simp)
     ·omega
     ·rw [hb,e3];exact hL _ (by simp)
    have hpw8:PgW v8 L' (keepP g' ls):=⟨hp8,hm7.pg.tab.buts hb8 (λ h=>by have:=hL L.p (by simp);omega),λ h=>by
     unfold PL.S at h
     have:=hLn 0 (by rcases h with h|h|h<;>simp [← h])
     omega⟩
    have hks:=keep_spare hm7.pg.at_.ok hlu
    repeat (first|(refine TL.isMove ?_;refine TL.pure rfl rfl ?_)|(refine TL.isAsg ?_;refine TL.pure rfl rfl ?_)|(refine TL.isAdd ?_;refine TL.addN rfl rfl (by omega) rfl ?_)|refine TL.nil ?_|refine thenQ_normal ?_|refine T.region ?_|refine blockQ_normal ?_)
    refine loopQ_normal (i+1,L',keepP g' ls,root') ⟨rfl,rfl,by rw [← hLp];rfl,rfl,trivial⟩ ⟨by simp only;omega,by simp only;rw [e1,hLp],hpw8,hLn,⟨lv',its',ps',hm7.tr.keep hm7.pg.at_.ok hlu (λ p hp=>(hls p).2 hp),hil'⟩,by simp only;omega,q4,hg8⟩ (by simp only;omega)
   ·repeat (first|(refine TL.isMove ?_;refine TL.pure rfl rfl ?_)|(refine TL.isAsg ?_;refine TL.pure rfl rfl ?_)|(refine TL.isAdd ?_;refine TL.addN rfl rfl (by omega) rfl ?_)|refine TL.nil ?_|refine thenQ_normal ?_|refine T.region ?_|refine blockQ_normal ?_|(refine TL.isBin ?_;refine TL.pureF rfl yD rfl ?_)|refine T.cond_false rfl ?_|refine T.skip ?_)
    refine loopQ_normal (i+1,L,g',root') ⟨rfl,rfl,by rw [← hLp];rfl,rfl,trivial⟩ ⟨by simp only;omega,hLp,hm6.pg,hL,⟨lv',its',ps',hm6.tr,hil'⟩,by simp only;omega,q4,hm6.gr⟩ (by simp only;omega)
end Go.Proofs.YtfpadnmdafiddaaGreatDoor
