import Derived.Test.YtfpadnmdafiddaaGreatDoorMR
import Derived.Test.YtfpadnmdafiddaaGreatDoorMS
import Derived.Shelf.SortM.Plain
import Derived.Shelf.SortM.SortNone
import Derived.Test.YtfpadnmdafiddaaGreatDoorMN
import Derived.Test.YtfpadnmdafiddaaGreatDoorMJ
import Derived.Test.YtfpadnmdafiddaaGreatDoorMP
set_option linter.all false
set_option maxHeartbeats 16000000
set_option maxRecDepth 100000
namespace Go.Proofs
open Go Go.RowKit Go.V Go.Maps Go.Sort Go.Shelf Go.WideShapes
set_option maxRecDepth 20000
def keysL_ren:Go.Shelf.Ren:=⟨fun|10=>200|n=>n,fun|33=>159|23=>224|0=>0|4=>4|26=>3|3=>228|n=>n,fun|n=>n⟩
theorem keysL:SlLaysZI.n10 Tryz.prog keysL_ren where
 mixed:=by kernel_rfl
 f10:=⟨"maps.Keys[map[int]headwater/treewalk.part,int,headwater/treewalk.part]$1",by decide,Tryz.func200.trans (congrArg some (by kernel_rfl))⟩
 t0:=Tryz.underlying0
 a0:=Tryz.isAgg0
 z0:=Tryz.sizeOf0
 v0:=Tryz.zeroValue0
 t4:=Tryz.underlying4
 a4:=Tryz.isAgg4
 z4:=Tryz.sizeOf4
 v4:=Tryz.zeroValue4
 t23:=Tryz.underlying224
 a23:=Tryz.isAgg224
 z23:=Tryz.sizeOf224
 v23:=Tryz.zeroValue224
 t26:=Tryz.underlying3
 a26:=Tryz.isAgg3
 z26:=Tryz.sizeOf3
 v26:=Tryz.zeroValue3
 t33:=Tryz.underlying159
 a33:=Tryz.isAgg159
 z33:=Tryz.sizeOf159
 v33:=Tryz.zeroValue159
def sortedL_ren:Go.Shelf.Ren:=⟨fun|6=>89|8=>157|9=>158|11=>197|13=>199|12=>198|23=>243|24=>244|14=>234|15=>235|16=>236|17=>237|18=>238|19=>239|20=>240|21=>241|22=>242|25=>260|26=>261|27=>262|28=>263|29=>264|30=>229|31=>274|n=>n,fun|26=>3|28=>157|24=>43|0=>0|3=>3|37=>196|48=>319|50=>168|4=>4|40=>312|39=>311|45=>180|5=>5|9=>9|51=>332|55=>335|57=>345|58=>346|33=>159|n=>n,fun|n=>n⟩
theorem sortedL:SlLaysZI.n6 Tryz.prog sortedL_ren where
 mixed:=by kernel_rfl
 f6:=⟨"slices.Sorted[int]",by decide,Tryz.func89.trans (congrArg some (by kernel_rfl))⟩
 f8:=⟨"slices.Collect[int]",by decide,Tryz.func157.trans (congrArg some (by kernel_rfl))⟩
 f11:=⟨"slices.AppendSeq[[]int,int]",by decide,Tryz.func197.trans (congrArg some (by kernel_rfl))⟩
 t0:=Tryz.underlying0
 a0:=Tryz.isAgg0
 z0:=Tryz.sizeOf0
 v0:=Tryz.zeroValue0
 t24:=Tryz.underlying43
 a24:=Tryz.isAgg43
 z24:=Tryz.sizeOf43
 v24:=Tryz.zeroValue43
 t26:=Tryz.underlying3
 a26:=Tryz.isAgg3
 z26:=Tryz.sizeOf3
 v26:=Tryz.zeroValue3
 t28:=Tryz.underlying157
 a28:=Tryz.isAgg157
 z28:=Tryz.sizeOf157
 v28:=Tryz.zeroValue157
 i26:=by kernel_rfl
def sortL_ren:Go.Shelf.Ren:=⟨fun|5=>158|8=>199|7=>198|19=>243|20=>244|10=>234|11=>235|12=>236|13=>237|14=>238|15=>239|16=>240|17=>241|18=>242|30=>260|31=>261|32=>262|33=>263|34=>264|35=>229|40=>274|n=>n,fun|23=>43|25=>3|3=>3|32=>196|22=>43|0=>0|44=>319|46=>168|4=>4|36=>312|35=>311|41=>180|5=>5|9=>9|53=>332|57=>335|63=>345|64=>346|n=>n,fun|n=>n⟩
theorem sortL:SlLaysM.n5 Tryz.prog sortL_ren where
 mixed:=by kernel_rfl
 f5:=⟨"slices.Sort[[]int,int]",by decide,Tryz.func158.trans (congrArg some (by kernel_rfl))⟩
 f7:=⟨"slices.pdqsortOrdered[int]",by decide,Tryz.func198.trans (congrArg some (by kernel_rfl))⟩
 f8:=Tryz.func199.trans (congrArg some (by kernel_rfl))
 f10:=⟨"slices.insertionSortOrdered[int]",by decide,Tryz.func234.trans (congrArg some (by kernel_rfl))⟩
 f11:=⟨"slices.heapSortOrdered[int]",by decide,Tryz.func235.trans (congrArg some (by kernel_rfl))⟩
 f12:=⟨"slices.breakPatternsOrdered[int]",by decide,Tryz.func236.trans (congrArg some (by kernel_rfl))⟩
 f13:=⟨"slices.choosePivotOrdered[int]",by decide,Tryz.func237.trans (congrArg some (by kernel_rfl))⟩
 f14:=⟨"slices.reverseRangeOrdered[int]",by decide,Tryz.func238.trans (congrArg some (by kernel_rfl))⟩
 f15:=⟨"slices.partialInsertionSortOrdered[int]",by decide,Tryz.func239.trans (congrArg some (by kernel_rfl))⟩
 f16:=⟨"cmp.Less[int]",by decide,Tryz.func240.trans (congrArg some (by kernel_rfl))⟩
 f17:=⟨"slices.partitionEqualOrdered[int]",by decide,Tryz.func241.trans (congrArg some (by kernel_rfl))⟩
 f18:=⟨"slices.partitionOrdered[int]",by decide,Tryz.func242.trans (congrArg some (by kernel_rfl))⟩
 f19:=Tryz.func243.trans (congrArg some (by kernel_rfl))
 f20:=Tryz.func244.trans (congrArg some (by kernel_rfl))
 f30:=⟨"slices.siftDownOrdered[int]",by decide,Tryz.func260.trans (congrArg some (by kernel_rfl))⟩
 f31:=Tryz.func261.trans (congrArg some (by kernel_rfl))
 f32:=Tryz.func262.trans (congrArg some (by kernel_rfl))
 f33:=⟨"slices.medianAdjacentOrdered[int]",by decide,Tryz.func263.trans (congrArg some (by kernel_rfl))⟩
 f34:=⟨"slices.medianOrdered[int]",by decide,Tryz.func264.trans (congrArg some (by kernel_rfl))⟩
 f35:=⟨"cmp.isNaN[int]",by decide,Tryz.func229.trans (congrArg some (by kernel_rfl))⟩
 f40:=⟨"slices.order2Ordered[int]",by decide,Tryz.func274.trans (congrArg some (by kernel_rfl))⟩
 t0:=Tryz.underlying0
 a0:=Tryz.isAgg0
 z0:=Tryz.sizeOf0
 v0:=Tryz.zeroValue0
 t3:=Tryz.underlying3
 a3:=Tryz.isAgg3
 z3:=Tryz.sizeOf3
 v3:=Tryz.zeroValue3
 t4:=Tryz.underlying4
 a4:=Tryz.isAgg4
 z4:=Tryz.sizeOf4
 v4:=Tryz.zeroValue4
 t5:=Tryz.underlying5
 a5:=Tryz.isAgg5
 z5:=Tryz.sizeOf5
 v5:=Tryz.zeroValue5
 t9:=Tryz.underlying9
 a9:=Tryz.isAgg9
 z9:=Tryz.sizeOf9
 v9:=Tryz.zeroValue9
 t22:=Tryz.underlying43
 a22:=Tryz.isAgg43
 z22:=Tryz.sizeOf43
 v22:=Tryz.zeroValue43
 t23:=Tryz.underlying43
 a23:=Tryz.isAgg43
 z23:=Tryz.sizeOf43
 v23:=Tryz.zeroValue43
 t25:=Tryz.underlying3
 a25:=Tryz.isAgg3
 z25:=Tryz.sizeOf3
 v25:=Tryz.zeroValue3
 t32:=Tryz.underlying196
 a32:=Tryz.isAgg196
 z32:=Tryz.sizeOf196
 v32:=Tryz.zeroValue196
 t35:=Tryz.underlying311
 a35:=Tryz.isAgg311
 z35:=Tryz.sizeOf311
 v35:=Tryz.zeroValue311
 t36:=Tryz.underlying312
 a36:=Tryz.isAgg312
 z36:=Tryz.sizeOf312
 v36:=Tryz.zeroValue312
 t41:=Tryz.underlying180
 a41:=Tryz.isAgg180
 z41:=Tryz.sizeOf180
 v41:=Tryz.zeroValue180
 t44:=Tryz.underlying319
 a44:=Tryz.isAgg319
 z44:=Tryz.sizeOf319
 v44:=Tryz.zeroValue319
 t46:=Tryz.underlying168
 a46:=Tryz.isAgg168
 z46:=Tryz.sizeOf168
 v46:=Tryz.zeroValue168
 t53:=Tryz.underlying332
 a53:=Tryz.isAgg332
 z53:=Tryz.sizeOf332
 v53:=Tryz.zeroValue332
 t57:=Tryz.underlying335
 a57:=Tryz.isAgg335
 z57:=Tryz.sizeOf335
 v57:=Tryz.zeroValue335
 t63:=Tryz.underlying345
 a63:=Tryz.isAgg345
 z63:=Tryz.sizeOf345
 v63:=Tryz.zeroValue345
 t64:=Tryz.underlying346
 a64:=Tryz.isAgg346
 z64:=Tryz.sizeOf346
 v64:=Tryz.zeroValue346
theorem sortsL (m:Nat):AnyZI.SortsIn Tryz.prog sortedL_ren Fence.wide m :=
 ⟨λ blk off cap ss W hH hblk hsz=>callsIn_wide.2 (AnyM.slices_Sort_int sortL blk off cap ss W hH hblk hsz),λ p cap W=>callsIn_wide.2 (AnyM.slices_Sort_int_none sortL p cap W)⟩
end Go.Proofs
namespace Go.Proofs.YtfpadnmdafiddaaGreatDoor
open Go Go.RowKit Go.V
theorem nodup_le:∀ {l r:List Nat},l.Nodup→(∀ x∈l,x∈r)→l.length≤r.length
 | [],r,_,_=>Nat.zero_le _
 | x::l,r,h,hs=>by
  obtain ⟨h1,h2⟩:=List.nodup_cons.1 h
  have hx:=hs x (by simp)
  have:=nodup_le (l:=l) (r:=r.erase x) h2 λ y hy=>(List.mem_erase_of_ne (λ e=>h1 (by rw [← e];exact hy))).2 (hs y (List.mem_cons_of_mem _ hy))
  rw [List.length_erase_of_mem hx] at this
  have hp:=List.length_pos_of_mem hx
  rw [List.length_cons]
  omega
theorem keys_nat {f:Nat→Option Value}:∀ {es:List MapEntry},(∀ x∈es,∃ n:Nat,n<9223372036854775808∧x.key=.int .i64 (n:Int)∧f n=some x.val)→∃ ks:List Nat,es.map (·.key)=ks.map (λ x=>Value.int .i64 (x:Nat))∧∀ k∈ks,k<9223372036854775808∧∃ v,f k=some v
 | [],_=>⟨[],rfl,by simp⟩
 | x::es,h=>by
  obtain ⟨n,h1,h2,h3⟩:=h x (by simp)
  obtain ⟨ks,k1,k2⟩:=keys_nat (es:=es) λ y hy=>h y (List.mem_cons_of_mem _ hy)
  refine ⟨n::ks,by simp [h2,k1],λ k hk=>?_⟩
  rcases List.mem_cons.1 hk with rfl|hk
  ·exact ⟨h1,_,h3⟩
  ·exact k2 k hk
theorem map_keys {w:World} {m:Nat} {f:Nat→Option Value} (h:MapF w m f) {ps:List Nat} (hp:∀ k,(∃ v,f k=some v)↔k∈ps):∃ (es:List MapEntry) (clock:Nat) (ks ls:List Nat),w.heap[m]? = some (.map es.toArray clock)∧es.map (·.key)=ks.map (λ x=>Value.int .i64 (x:Nat)) ∧
  (∀ x∈ks,x<9223372036854775808)∧(∀ m∈es,m.born<clock)∧(es.map (·.born)).Pairwise (· < ·)∧ks.length≤ps.length∧ls.Perm ks∧ls.Pairwise (· < ·)∧∀ k,k∈ls↔k∈ps:=by
 obtain ⟨es,clock,h1,h2,h3,h4⟩:=h
 obtain ⟨ks,k1,k2⟩:=keys_nat h2
 have hkm:∀ k,k∈ks↔k∈ps:=λ k=>by
  rw [← hp]
  refine ⟨λ hk=>(k2 k hk).2,λ ⟨v,hv⟩=>?_⟩
  obtain ⟨x,hx,e⟩:=h3 k v hv
  have:=List.mem_map_of_mem (f:=λ x:MapEntry=>x.key) hx
  rw [k1,e] at this
  obtain ⟨n,hn,e2⟩:=List.mem_map.1 this
  have:n=k:=by simp only [Value.int.injEq,true_and] at e2;omega
  exact this▸hn
 have hnd:ks.Nodup:=by
  have h5:(es.toList.map (·.key)).Pairwise (·≠·):=List.pairwise_map.2 h4.keys
  rw [k1] at h5
  exact (List.pairwise_map.1 h5).imp λ h e=>h (by rw [e])
 have hperm:=List.mergeSort_perm ks (λ x y=>decide (x≤y))
 have hle:(ks.mergeSort (λ x y=>decide (x≤y))).Pairwise (λ a b=>decide (a≤b)=true):=List.pairwise_mergeSort (le:=λ x y=>decide (x≤y)) (λ a b c h1 h2=>by simp only [decide_eq_true_eq] at *;omega) (λ a b=>by simp only [Bool.or_eq_true,decide_eq_true_eq];omega) ks
 have hnd2:=(hperm.nodup_iff).2 hnd
 refine ⟨es.toList,clock,ks,ks.mergeSort (λ x y=>decide (x≤y)),by simpa using h1,k1,λ x hx=>(k2 x hx).1,h4.lt,List.pairwise_map.2 h4.born,nodup_le hnd λ x hx=>(hkm x).1 hx,hperm,?_,λ k=>by rw [hperm.mem_iff];exact hkm k⟩
 exact (hle.and hnd2).imp λ h=>by
  obtain ⟨a,b⟩:=h
  simp only [decide_eq_true_eq] at a
  omega
theorem mkeys_c (m:Nat) (w:World) :
  Calls Tryz.prog 159 #[.map (some m)] w (Ret λ v w'=>∃ c,v=.func (.func 200) #[] #[.pointer (some ⟨c,0,none⟩)]∧w.heap.size≤c∧Blk w' c 224 [.map (some m)]∧Grow w w'):=by
 refine V.calls (args:=[_]) Tryz.func159 rfl Tryz.ntmps159 rfl rfl ?_
 repeat (first|(refine mM ?_;refine TL.makeFunc (xs:=[]) (cs:=[_]) rfl rfl rfl ?_)|(refine aD ?_;refine TL.pure rfl rfl ?_)|refine TL.nil ?_|refine aA ?_|refine aJ ?_|refine aC ?_|(refine cD ?_;(refine TL.box rfl rfl rfl ?_;intro bk w' hg hbk hsz hsz'))|refine bE ?_)
 exact cI rfl ⟨_,rfl,bk,rfl,by omega,hbk,hg⟩
theorem wpages_c {w:World} {b m p:Nat} (hbw:Blk w b 226 [.pointer (some ⟨p,0,none⟩),.map (some m)]) :
  Calls Tryz.prog 90 #[.pointer (some ⟨b,0,none⟩)] w (Ret λ v w'=>∃ c,v=.func (.func 200) #[] #[.pointer (some ⟨c,0,none⟩)]∧w.heap.size≤c∧Blk w' c 224 [.map (some m)]∧Grow w w'):=by
 refine V.calls (args:=[_]) Tryz.func90 rfl Tryz.ntmps90 rfl rfl ?_
 repeat (first|(refine aB ?_;refine TL.pure rfl rfl ?_)|(refine aD ?_;refine TL.pure rfl rfl ?_)|refine aK rfl yM rfl ?_|refine aF rfl rfl ?_|refine TL.nil ?_|refine aA ?_|refine aJ ?_|refine aC ?_|refine bM rfl rfl ?_)
 refine aL 159 ?_
 refine aI rfl (mkeys_c m w) rfl ?_
 rintro _ w1 ⟨c,rfl,hc,hb,hg⟩
 repeat (first|(refine aD ?_;refine TL.pure rfl rfl ?_)|refine TL.nil ?_|refine aA ?_|refine bE ?_)
 exact cI rfl ⟨_,rfl,c,rfl,hc,hb,hg⟩
theorem sorted_c {w:World} {c m:Nat} {f:Nat→Option Value} (hb:Blk w c 224 [.map (some m)]) (h:MapF w m f) {ps:List Nat} (hp:∀ k,(∃ v,f k=some v)↔k∈ps) (hlen:ps.length≤1000000) :
  Calls Tryz.prog 89 #[.func (.func 200) #[] #[.pointer (some ⟨c,0,none⟩)]] w (Ret λ v w'=>∃ ls,w'.ownsRow w.heap.size 3 1 v ls.length (cM ls)∧(∀ k,k∈ls↔k∈ps)∧ls.length≤ps.length∧Grow w w'):=by
 obtain ⟨es,clock,ks,ls,h1,h2,h3,h4,h5,h6,h7,h8,h9⟩:=map_keys h hp
 have e9:∀ args w,(callFunc (sortedL_ren.f 9) args).run Tryz.prog w=.ok (.enter (sortedL_ren.f 9) args) w:=enters_of Tryz.func158 (by kernel_rfl) rfl
 have eg:∀ args w,(callFunc (keysL_ren.f 10) args).run Tryz.prog w=.ok (.enter (keysL_ren.f 10) args) w:=enters_of Tryz.func200 (by kernel_rfl) rfl
 have hb':w.heap[c]? = some (.cells #[.map (some m)] 224 (0,0)):=by unfold Blk at hb;simpa using hb
 have key:=sorted_g keysL sortedL rfl (sortsL 4) e9 eg w c m es clock ks ls 224 (0,0) hb' h1 h2 h3 h4 h5 (by omega) h7 h8
 refine Calls.mono key λ y w' hy=>hy.mono λ v w' ⟨hg,hor⟩=>⟨ls,?_,h9,by rw [h7.length_eq];exact h6,hg⟩
 have hll:ls.length≤1000000:=by rw [h7.length_eq];omega
 rcases hor with ⟨rfl,rfl⟩|⟨hne,g,cap,cur,rfl,hg1,hg2,hg3,hg4,hg5,hg6⟩
 ·exact kQ
 ·refine ⟨by simp [cM],.inr ⟨g,cap,cur,rfl,hg1,hg2,hg3,hg4,by omega,?_⟩⟩
  apply List.ext_getElem?
  intro i
  rw [List.getElem?_take]
  by_cases hi:i<ls.length
  ·obtain ⟨x,hx⟩:∃ x,ls[i]? = some x:=⟨_,List.getElem?_eq_getElem hi⟩
   have:=hg6 i (.int .i64 (x:Nat)) (by simp [hx])
   rw [if_pos (by omega),show cur.toList[i]? = cur[i]? by simp,this]
   simp [cM,hx]
  ·rw [if_neg (by omega)]
   rw [List.getElem?_eq_none (by rw [kS];omega)]
theorem reach_c {L:PL} {g:Pg} {w:World} {lv:Nat} {M':eR} {root:Option Nat} (h:PgAt w L g) (hr:∀ n,root=some n→n<4294967296) (ht:treeP g root []=some (lv,M')) {ps:List Nat} (hps:∀ k,(∃ t,gK M' k=some t)↔k∈ps) (hlen:ps.length≤1000000) :
  Calls Tryz.prog 22 #[.pointer (some ⟨L.p,0,none⟩),.int .i64 (dF root)] w (Ret λ v w'=>∃ ls a c,v=.tuple #[.slice a ls.length c,.int .i64 0]∧Sl (λ k=>w.heap.size≤k∧k<w'.heap.size) w' 1 a ls.length c (cM ls)∧(∀ k,k∈ls↔k∈ps)∧ls.length≤ps.length∧Grow w w'):=by
 have hlts:=h.lts
 refine V.calls (args:=[_,_]) Tryz.func22 rfl Tryz.ntmps22 rfl rfl ?_
 repeat (first|(refine aB ?_;refine TL.pure rfl rfl ?_)|(refine aD ?_;refine TL.pure rfl rfl ?_)|refine TL.nil ?_|refine aA ?_|refine aJ ?_|refine aC ?_)
 refine aL 87 ?_
 refine aI rfl (walk_new L.p w) rfl ?_
 rintro _ w1 ⟨b,m,rfl,hb,hm,hwk,hg1⟩
 have hbl:=hwk.blk.lt
 have hml:=hwk.map.lt
 repeat (first|(refine aB ?_;refine TL.pure rfl rfl ?_)|(refine aD ?_;refine TL.pure rfl rfl ?_)|refine TL.nil ?_|refine aA ?_|refine aJ ?_|refine aC ?_)
 refine aL 88 ?_
 refine aI rfl (walked_c h hg1 hwk hb hm hr ht) rfl ?_
 rintro _ w2 ⟨rfl,hM,hbw,hg2⟩
 have z2:=hg2.size
 repeat (first|(refine aB ?_;refine TL.pure rfl rfl ?_)|(refine aD ?_;refine TL.pure rfl rfl ?_)|refine TL.nil ?_|refine aA ?_|refine aJ ?_|refine aC ?_|(refine aH ?_;refine TL.pure rfl rfl ?_)|refine aE rfl ?_|refine aW ?_|refine TL.pure rfl rfl ?_)
 refine aL 90 ?_
 refine aI rfl (wpages_c hbw) rfl ?_
 rintro _ w3 ⟨c,rfl,hc,hcb,hg3⟩
 have z3:=hg3.size
 obtain ⟨f,hf,hf0,hf1⟩:=hM
 have hfp:∀ k,(∃ v,f k=some v)↔k∈ps:=λ k=>by
  rw [← hps]
  refine ⟨λ ⟨v,hv⟩=>?_,λ ⟨t,ht⟩=>?_⟩
  ·cases hg:gK M' k with
   | none=>rw [hf0 k hg] at hv;cases hv
   | some t=>exact ⟨t,rfl⟩
  ·obtain ⟨x,lo,hi,e,_⟩:=hf1 k t ht
   exact ⟨_,e⟩
 repeat (refine aJ ?_)
 refine aL 89 ?_
 refine aI rfl (sorted_c hcb (hf.grow hg3) hfp hlen) rfl ?_
 rintro v4 w4 ⟨ls,hv4,hls,hln,hg4⟩
 obtain ⟨a,c4,rfl,hsl⟩:=bX hv4
 repeat (first|(refine aD ?_;refine TL.pure rfl rfl ?_)|refine TL.nil ?_|refine aA ?_|refine bE ?_)
 exact jM rfl rfl ⟨_,rfl,ls,a,c4,rfl,hsl.mono (λ k hk=>by have:=cJ hv4 hk.2;omega),hls,hln,(hg2.trans hg3).trans hg4⟩
end Go.Proofs.YtfpadnmdafiddaaGreatDoor
namespace Go.Proofs.YtfpadnmdafiddaaGreatDoor
open Go Go.RowKit Go.V
theorem TrAt.root_used {g:Pg} {root:Option Nat} {lv:Nat} {l:dO} {ps:List Nat} (h:TrAt g root lv l ps):∀ n,root=some n→dE g n=true:=by
 rintro n rfl
 obtain ⟨h,nd,ps',e1,e2,e3,e4,e5⟩:=h
 exact eT e2
structure Aft (w w':World) (L:PL) (g g':Pg) (lv:Nat) (root':Option Nat) (lv':Nat) (l':dO) (ps':List Nat):Prop where
 pg:PgW w' L g'
 ext:Ext g g'
 tr:TrAt g' root' lv' l' ps'
 sp:bZ g≤bZ g'+(2*lv+1)
 sp2:bZ g'≤bZ g
 but:ButS L.S w w'
theorem put_any {w:World} {L:PL} {g:Pg} (h:PgW w L g) {root:Option Nat} {lv:Nat} {l:dO} {ps:List Nat} (ht:TrAt g root lv l ps) (hlv:lv≤15) (hsp:32≤bZ g) (a a':Option Addr) (m c m' c':Nat) (key v:Bs) (hk:Sl (λ k=>¬ L.S k) w 1 a m c (cX key)) (hv:Sl (λ k=>¬ L.S k) w 1 a' m' c' (cX v)) (hkb:kD key) (hvb:kD v) :
  Calls Tryz.prog 25 #[.pointer (some ⟨L.p,0,none⟩),.int .i64 (dF root),.slice a m c,.slice a' m' c'] w (Ret λ u w'=>∃ (x e:Int) (root':Option Nat) (g':Pg) (lv':Nat) (l':dO) (ps':List Nat),u=.tuple #[.int .i64 x,.int .i64 e] ∧
   (((dB key&&fR v)=true∧e=0∧x=dF root'∧l'=gU key v l)∨((dB key&&fR v)=false∧e=2∧root'=root∧g'=g∧l'=l∧lv'=lv))∧Aft w w' L g g' lv root' lv' l' ps'):=by
 cases hb:dB key&&fR v with
 | false =>
  refine Calls.mono (put_bad h.at_ root ht.root_used a a' m c m' c' key v hk hv hb) λ y w' hy=>hy.mono λ u w' ⟨hu,hg⟩=>⟨0,2,root,g,lv,l,ps,hu,.inr ⟨rfl,rfl,rfl,rfl,rfl,rfl⟩,⟨h.grow hg,Ext.refl _,ht,by omega,by omega,ButS.grow hg⟩⟩
 | true =>
  obtain ⟨hko,hvo⟩:=Bool.and_eq_true_iff.1 hb
  obtain ⟨n,g',lv',ps',e1,e2,e3,e4,e5,e6,e7⟩:=put_tr h.at_.ok ht hko hvo (by omega) (by omega)
  refine Calls.mono (put_c h.at_ h.tab h.ne0 root a a' m c m' c' key v hk hv hko hvo hkb hvb hsp n e1) λ y w' hy=>hy.mono λ u w' ⟨hu,hp,hbs⟩=>⟨(n:Int),0,some n,g',lv',_,ps',hu,.inl ⟨rfl,rfl,rfl,rfl⟩,⟨h.put hp hbs,e2,e4,e6,e7,hbs⟩⟩
theorem put_det {g:Pg} (hok:PgOk g) {root:Option Nat} {lv:Nat} {l:dO} {ps:List Nat} (ht:TrAt g root lv l ps) (hlv:lv≤15) (hsp:32≤bZ g) (key v:Bs) (hkb:kD key) (hvb:kD v):∃ (x e:Int) (root':Option Nat) (g':Pg) (lv':Nat) (l':dO) (ps':List Nat),
  (((dB key&&fR v)=true∧e=0∧x=dF root'∧l'=gU key v l)∨((dB key&&fR v)=false∧e=2∧root'=root∧g'=g∧l'=l∧lv'=lv))∧Ext g g'∧TrAt g' root' lv' l' ps'∧bZ g≤bZ g'+(2*lv+1)∧bZ g'≤bZ g ∧
  ∀ {w:World} {L:PL},PgW w L g→∀ (a a':Option Addr) (m c m' c':Nat),Sl (λ k=>¬ L.S k) w 1 a m c (cX key)→Sl (λ k=>¬ L.S k) w 1 a' m' c' (cX v) →
   Calls Tryz.prog 25 #[.pointer (some ⟨L.p,0,none⟩),.int .i64 (dF root),.slice a m c,.slice a' m' c'] w (Ret λ u w'=>u=.tuple #[.int .i64 x,.int .i64 e]∧PgW w' L g'∧ButS L.S w w'):=by
 cases hb:dB key&&fR v with
 | false =>
  exact ⟨0,2,root,g,lv,l,ps,.inr ⟨rfl,rfl,rfl,rfl,rfl,rfl⟩,Ext.refl _,ht,by omega,by omega,λ h a a' m c m' c' hk hv=>Calls.mono (put_bad h.at_ root ht.root_used a a' m c m' c' key v hk hv hb) λ y w' hy=>hy.mono λ u w' ⟨hu,hg⟩=>⟨hu,h.grow hg,ButS.grow hg⟩⟩
 | true =>
  obtain ⟨hko,hvo⟩:=Bool.and_eq_true_iff.1 hb
  obtain ⟨n,g',lv',ps',e1,e2,e3,e4,e5,e6,e7⟩:=put_tr hok ht hko hvo (by omega) (by omega)
  exact ⟨(n:Int),0,some n,g',lv',_,ps',.inl ⟨rfl,rfl,rfl,rfl⟩,e2,e4,e6,e7,λ h a a' m c m' c' hk hv=>Calls.mono (put_c h.at_ h.tab h.ne0 root a a' m c m' c' key v hk hv hko hvo hkb hvb hsp n e1) λ y w' hy=>hy.mono λ u w' ⟨hu,hp,hbs⟩=>⟨hu,h.put hp hbs,hbs⟩⟩
theorem del_any {w:World} {L:PL} {g:Pg} (h:PgW w L g) {root:Option Nat} {lv:Nat} {l:dO} {ps:List Nat} (ht:TrAt g root lv l ps) (hlv:lv≤15) (hsp:32≤bZ g) (a:Option Addr) (m c:Nat) (key:Bs) (hk:Sl (λ k=>¬ L.S k) w 1 a m c (cX key)) :
  Calls Tryz.prog 19 #[.pointer (some ⟨L.p,0,none⟩),.int .i64 (dF root),.slice a m c] w (Ret λ u w'=>∃ (x e:Int) (root':Option Nat) (g':Pg) (lv':Nat) (l':dO) (ps':List Nat),u=.tuple #[.int .i64 x,.int .i64 e] ∧
   (((∃ y∈l,y.1=key)∧e=0∧x=dF root'∧l'=gV key l)∨((¬ ∃ y∈l,y.1=key)∧(e=2∨e=6)∧(dB key=false→e=2)∧root'=root∧g'=g∧l'=l∧lv'=lv))∧Aft w w' L g g' lv root' lv' l' ps'):=by
 cases hb:dB key with
 | false =>
  have hno:¬ ∃ y∈l,y.1=key:=λ ⟨y,hy,e⟩=>by
   have:=(ht.items y hy).1
   rw [e,hb] at this
   cases this
  refine Calls.mono (delete_bad h.at_ root ht.root_used a m c key hk hb) λ y w' hy=>hy.mono λ u w' ⟨hu,hg⟩=>⟨0,2,root,g,lv,l,ps,hu,.inr ⟨hno,.inl rfl,λ _=>rfl,rfl,rfl,rfl,rfl⟩,⟨h.grow hg,Ext.refl _,ht,by omega,by omega,ButS.grow hg⟩⟩
 | true =>
  cases root with
  | none =>
   have hno:¬ ∃ y∈l,y.1=key:=λ ⟨y,hy,e⟩=>by rw [ht.2.1] at hy;cases hy
   refine Calls.mono (delete_none h.at_ hsp a m c key hk hb) λ y w' hy=>hy.mono λ u w' ⟨hu,hg⟩=>⟨0,6,none,g,lv,l,ps,hu,.inr ⟨hno,.inr rfl,(λ e=>by cases e),rfl,rfl,rfl,rfl⟩,⟨h.grow hg,Ext.refl _,ht,by omega,by omega,ButS.grow hg⟩⟩
  | some n =>
   by_cases hth:∃ y∈l,y.1=key
   ·obtain ⟨fr,r1,g1,lv1,ps1,d1,d2,d3,d4,d5,d6,d7⟩:=del_tr h.at_.ok ht hth (by omega) (by omega)
    refine Calls.mono (delete_c h.at_ h.tab h.ne0 n a m c key hk hb hsp fr d1 r1 d2) λ y w' hy=>hy.mono λ u w' ⟨hu,hp,hbs⟩=>⟨dF r1,0,r1,g1,lv1,_,ps1,hu,.inl ⟨hth,rfl,rfl,rfl⟩,⟨h.put hp hbs,d3,d5,d6,d7,hbs⟩⟩
   ·obtain ⟨hh,nd,ps',e1,e2,e3,e4,e5⟩:=id ht
    obtain ⟨fr,th,p1,p2,p3,p4⟩:=path_tr key hh (f:=16) e2 e3 (by omega)
    have hf:th=false:=by
     cases th with
     | false=>rfl
     | true=>exact absurd (p3.1 rfl) hth
    subst hf
    refine Calls.mono (delete_miss h.at_ hsp n a m c key hk hb fr p1) λ y w' hy=>hy.mono λ u w' ⟨hu,hg⟩=>⟨0,6,some n,g,lv,l,ps,hu,.inr ⟨hth,.inr rfl,(λ e=>by cases e),rfl,rfl,rfl,rfl⟩,⟨h.grow hg,Ext.refl _,ht,by omega,by omega,ButS.grow hg⟩⟩
end Go.Proofs.YtfpadnmdafiddaaGreatDoor
namespace Go.V
open Go Go.RowKit
section
variable [Rn]
variable {P:Program} {n:Nat} {l:List Oper} {e:dQ} {I:World→Prop} {vs:List Value}
theorem det_mkG {i j:Nat} {want:Bool} {d:Option Nat} {op:Op} {ty:TypeId} {pos:String} {aft:Array Edge} {v:Value} {e':dQ} (ho:l[i]? = some ⟨d,op,ty,pos,aft,some (j,want)⟩) (hv:vs.getD i undef=v) (he:iX l vs (kM (cC ⟨d,op,ty,pos,aft,some (j,want)⟩)) e=e')
  (h:∀ w,I w→TL P n l.toArray [⟨d,op,ty,pos,aft,some (j,want)⟩] e' w (detQ d v I)):Det P n l e I vs i:=by
 unfold Det
 rw [ho]
 simp only
 intro w hw
 subst he
 rw [hv]
 exact h w hw
end
end Go.V
namespace Go.Proofs.YtfpadnmdafiddaaGreatDoor
open Go Go.RowKit Go.V
def ownS {S:Nat→Prop} (base elem sz m:Nat) (xs:List Value) (hS:∀ k,base≤k→¬ S k):AFact (ButS S) :=
 { G:=λ u _ _ w=>w.ownsRow base elem sz u m xs,st:=λ _ _ _ _ _ g h=>cL h g,firm:=true,fm:=λ _ _ _ _ _ _ sa h=>eZ h λ k hk hv=>sa.block k (cJ h hv).2 (hS k hk) }
end Go.Proofs.YtfpadnmdafiddaaGreatDoor
namespace Go.Proofs.YtfpadnmdafiddaaGreatDoor
open Go Go.RowKit Go.V
theorem get_bad {w:World} {L:PL} {g:Pg} (h:PgAt w L g) (root:Option Nat) (hr:∀ n,root=some n→dE g n=true) {K:Nat→Prop} (a:Option Addr) (m c:Nat) (key:Bs) (hk:Sl K w 1 a m c (cX key)) (hko:dB key=false) :
  Calls Tryz.prog 24 #[.pointer (some ⟨L.p,0,none⟩),.int .i64 (dF root),.slice a m c] w (Ret λ u w'=>u=.tuple #[.slice none 0 0,.int .i64 2]∧Grow w w'):=by
 have hrr:=rootI_in h.cnt hr
 refine V.calls (args:=[_,_,_]) Tryz.func24 rfl Tryz.ntmps24 rfl rfl ?_
 repeat (first|(refine aL 93 ?_;refine aI rfl (kO h (dF root) hrr.1 hrr.2) rfl ?_;rintro _ _ ⟨rfl,rfl⟩)|(refine aL 94 ?_;refine aI rfl (lZ hk hko) rfl ?_;rintro _ _ ⟨rfl,rfl⟩)|(refine aB ?_;refine TL.pure rfl rfl ?_)|(refine aD ?_;refine TL.pure rfl rfl ?_)|refine TL.nil ?_|refine aA ?_|refine aJ ?_|refine aC ?_|(refine aH ?_;refine aQ rfl yD rfl ?_)|refine aM rfl ?_|refine aE rfl ?_|refine bE ?_|refine aW ?_|refine bI ?_|refine TL.pure rfl rfl ?_)
 exact jM rfl rfl ⟨_,rfl,rfl,Grow.refl _⟩
theorem get_none {w:World} {L:PL} {g:Pg} (h:PgAt w L g) {K:Nat→Prop} (a:Option Addr) (m c:Nat) (key:Bs) (hk:Sl K w 1 a m c (cX key)) (hko:dB key=true) :
  Calls Tryz.prog 24 #[.pointer (some ⟨L.p,0,none⟩),.int .i64 (dF none),.slice a m c] w (Ret λ u w'=>u=.tuple #[.slice none 0 0,.int .i64 6]∧Grow w w'):=by
 refine V.calls (args:=[_,_,_]) Tryz.func24 rfl Tryz.ntmps24 rfl rfl ?_
 repeat (first|(refine aL 93 ?_;refine aI rfl (kO h (dF none) (by decide) (by decide)) rfl ?_;rintro _ _ ⟨rfl,rfl⟩)|(refine aL 94 ?_;refine aI rfl (lZ hk hko) rfl ?_;rintro _ _ ⟨rfl,rfl⟩)|(refine aB ?_;refine TL.pure rfl rfl ?_)|(refine aD ?_;refine TL.pure rfl rfl ?_)|refine TL.nil ?_|refine aA ?_|refine aJ ?_|refine aC ?_|(refine aH ?_;first|refine aQ rfl yD rfl ?_|refine TL.pure rfl rfl ?_)|refine aM rfl ?_|refine aE rfl ?_|refine bE ?_|refine aW ?_|refine bI ?_|refine TL.pure rfl rfl ?_)
 exact jM rfl rfl ⟨_,rfl,rfl,Grow.refl _⟩
theorem get_miss {w:World} {L:PL} {g:Pg} (h:PgAt w L g) {K:Nat→Prop} (a:Option Addr) (m c n:Nat) (key:Bs) (fr:List (Nd×Nat)) (hk:Sl K w 1 a m c (cX key)) (hko:dB key=true) (hn:n<4294967296) (hp:gZ g key 16 n=some (fr,false)) :
  Calls Tryz.prog 24 #[.pointer (some ⟨L.p,0,none⟩),.int .i64 (n:Int),.slice a m c] w (Ret λ u w'=>u=.tuple #[.slice none 0 0,.int .i64 6]∧Grow w w'):=by
 refine V.calls (args:=[_,_,_]) Tryz.func24 rfl Tryz.ntmps24 rfl rfl ?_
 have hne:(((n:Nat):Int)==-1)=false:=by rw [beq_eq_false_iff_ne];omega
 repeat (first|(refine aL 93 ?_;refine aI rfl (kO h (n:Int) (by omega) (by omega)) rfl ?_;rintro _ _ ⟨rfl,rfl⟩)|(refine aL 94 ?_;refine aI rfl (lZ hk hko) rfl ?_;rintro _ _ ⟨rfl,rfl⟩)|(refine aB ?_;refine TL.pure rfl rfl ?_)|(refine aD ?_;refine TL.pure rfl rfl ?_)|refine TL.nil ?_|refine aA ?_|refine aJ ?_|refine aC ?_|(refine aH ?_;refine aQ rfl yD rfl ?_)|refine aE rfl ?_|refine aW ?_|refine TL.pure rfl rfl ?_)
 refine aL 78 ?_
 refine aI rfl (path_c h _ a m c n key fr false hk hp) rfl ?_
 rintro _ w1 ⟨⟨b,d,cs,rfl,hs,hfc⟩,hg1⟩
 repeat (first|(refine aB ?_;refine TL.pure rfl rfl ?_)|(refine aD ?_;refine TL.pure rfl rfl ?_)|refine TL.nil ?_|refine aA ?_|refine aJ ?_|refine aC ?_|(refine aH ?_;refine aQ rfl yD rfl ?_)|refine aM rfl ?_|refine aE rfl ?_|refine bE ?_|refine aW ?_|refine bI ?_|refine TL.pure rfl rfl ?_)
 exact jM rfl rfl ⟨_,rfl,rfl,hg1⟩
theorem get_any {w:World} {L:PL} {g:Pg} (h:PgW w L g) {root:Option Nat} {lv:Nat} {l:dO} {ps:List Nat} (ht:TrAt g root lv l ps) (hlv:lv≤15) {K:Nat→Prop} (a:Option Addr) (m c:Nat) (key:Bs) (hk:Sl K w 1 a m c (cX key)) :
  Calls Tryz.prog 24 #[.pointer (some ⟨L.p,0,none⟩),.int .i64 (dF root),.slice a m c] w (Ret λ u w'=>(∃ (q:Value) (e:Int),u=.tuple #[q,.int .i64 e]∧((∃ v,(key,v)∈l∧e=0∧BsAt (λ k=>w.heap.size≤k) w' q v)∨((¬ ∃ y∈l,y.1=key)∧q=.slice none 0 0∧(e=2∨e=6))))∧Grow w w'):=by
 cases hb:dB key with
 | false =>
  have hno:¬ ∃ y∈l,y.1=key:=λ ⟨y,hy,e⟩=>by
   have:=(ht.items y hy).1
   rw [e,hb] at this
   cases this
  exact Calls.mono (get_bad h.at_ root ht.root_used a m c key hk hb) λ y w' hy=>hy.mono λ u w' ⟨hu,hg⟩=>⟨⟨_,_,hu,.inr ⟨hno,rfl,.inl rfl⟩⟩,hg⟩
 | true =>
  cases root with
  | none =>
   have hno:¬ ∃ y∈l,y.1=key:=λ ⟨y,hy,e⟩=>by rw [ht.2.1] at hy;cases hy
   exact Calls.mono (get_none h.at_ a m c key hk hb) λ y w' hy=>hy.mono λ u w' ⟨hu,hg⟩=>⟨⟨_,_,hu,.inr ⟨hno,rfl,.inr rfl⟩⟩,hg⟩
  | some n =>
   have hn:n<4294967296:=by have:=ht.lt h.at_.ok;omega
   obtain ⟨hh,nd,ps',e1,e2,e3,e4,e5⟩:=id ht
   obtain ⟨fr,th,p1,p2,p3,p4⟩:=path_tr key hh (f:=16) e2 e3 (by omega)
   by_cases hth:∃ y∈l,y.1=key
   ·obtain rfl:th=true:=p3.2 hth
    obtain ⟨⟨k,v⟩,hy,hyk⟩:=hth
    simp only at hyk
    subst hyk
    obtain ⟨nd2,i,q1,q2⟩:=p4 v hy
    have hvl:=jA (ht.items _ hy).2
    simp only at hvl
    exact Calls.mono (get_c h.at_ K a m c n k v fr nd2 i hk hb hn p1 (by rw [p2];exact q1) q2 (by omega)) λ y w' hy2=>hy2.mono λ u w' ⟨⟨q,hu,hq⟩,hg⟩=>⟨⟨_,_,hu,.inl ⟨v,hy,rfl,hq⟩⟩,hg⟩
   ·have hf:th=false:=by
     cases th with
     | false=>rfl
     | true=>exact absurd (p3.1 rfl) hth
    subst hf
    exact Calls.mono (get_miss h.at_ a m c n key fr hk hb hn p1) λ y w' hy=>hy.mono λ u w' ⟨hu,hg⟩=>⟨⟨_,_,hu,.inr ⟨hth,rfl,.inr rfl⟩⟩,hg⟩
end Go.Proofs.YtfpadnmdafiddaaGreatDoor
namespace Go.Proofs.YtfpadnmdafiddaaGreatDoor
open Go Go.RowKit Go.V
theorem klt_cons {a b:Nat} {x y:Bs}:hX (a::x) (b::y)↔a<b∨a=b∧hX x y:=by
 unfold hX
 simp only [dX]
 split
 ·rename_i h;simp [h]
 ·rename_i h
  split
  ·rename_i h2
   refine ⟨λ e=>by omega,λ e=>?_⟩
   rcases e with e|⟨e,_⟩<;>omega
  ·rename_i h2
   have:a=b:=by omega
   subst this
   simp
theorem less_txt:∀ {l r:Bs},(∀ x∈l,x<256)→(∀ x∈r,x<256)→Op.bytesLess (iH l).toList (iH r).toList=decide (hX l r)
 | l,r,hl,hr=>by
  rw [txt_list,txt_list]
  induction l generalizing r with
  | nil =>
   cases r with
   | nil=>simp [Op.bytesLess,hX,dX]
   | cons b y=>simp [Op.bytesLess,hX,dX]
  | cons a x ih =>
   cases r with
   | nil=>simp [Op.bytesLess,hX,dX]
   | cons b y =>
    have ha:a<256:=hl a (by simp)
    have hb:b<256:=hr b (by simp)
    have h1:(UInt8.ofNat a<UInt8.ofNat b)↔a<b:=by
     rw [UInt8.lt_iff_toNat_lt,UInt8.toNat_ofNat_of_lt' ha,UInt8.toNat_ofNat_of_lt' hb]
    have h2:(UInt8.ofNat a==UInt8.ofNat b)=decide (a=b):=by
     by_cases h:a=b
     ·subst h;simp
     ·rw [decide_eq_false h,beq_eq_false_iff_ne]
      intro e
      have:=congrArg UInt8.toNat e
      rw [UInt8.toNat_ofNat_of_lt' ha,UInt8.toNat_ofNat_of_lt' hb] at this
      exact h this
    have h3:=ih (r:=y) (λ z hz=>hl z (List.mem_cons_of_mem _ hz)) (λ z hz=>hr z (List.mem_cons_of_mem _ hz))
    simp only [List.map_cons,Op.bytesLess,h2,h3]
    rw [Bool.eq_iff_iff]
    simp only [Bool.or_eq_true,Bool.and_eq_true,decide_eq_true_eq,h1,klt_cons]
theorem srt_uniq:∀ {l:dO},Srt l→∀ {k v v':Bs},(k,v)∈l→(k,v')∈l→v=v'
 | [],_,k,v,v',h,_=>by cases h
 | x::l,hs,k,v,v',h,h'=>by
  obtain ⟨h1,h2⟩:=List.pairwise_cons.1 hs
  rcases List.mem_cons.1 h with e|h
  ·rcases List.mem_cons.1 h' with e'|h'
   ·rw [← e'] at e;exact (Prod.mk.inj e).2
   ·have:=h1 _ h';rw [← e] at this;exact absurd this (dC _)
  ·rcases List.mem_cons.1 h' with e'|h'
   ·have:=h1 _ h;rw [← e'] at this;exact absurd this (dC _)
   ·exact srt_uniq h2 h h'
theorem srt_nodup {l:dO} (h:Srt l):(l.map (·.1)).Nodup:=List.pairwise_map.2 (h.imp λ {a b} h (e:a.1=b.1)=>by rw [e] at h;exact dC _ h)
theorem srt_lt {l:dO} (h:Srt l) {i j:Nat} {x y:Bs×Bs} (hij:i<j) (hx:l[i]? = some x) (hy:l[j]? = some y):hX x.1 y.1:=by
 obtain ⟨hi,rfl⟩:=List.getElem?_eq_some_iff.1 hx
 obtain ⟨hj,rfl⟩:=List.getElem?_eq_some_iff.1 hy
 exact List.pairwise_iff_getElem.1 h i j hi hj hij
def HasOk (F:Nat→Prop) (w:World) (f:Bs→Option Value) (its:dO):Prop:=∀ k,(f k=none∧∀ y∈its,y.1≠k)∨∃ u v,f k=some u∧(k,v)∈its∧BsAt F w u v
theorem HasOk.go {F F':Nat→Prop} {w w':World} {f:Bs→Option Value} {its:dO} (h:HasOk F w f its) (g:Carry F w F' w'):HasOk F' w' f its:=λ k=>by
 rcases h k with h|⟨u,v,h1,h2,h3⟩
 ·exact .inl h
 ·exact .inr ⟨u,v,h1,h2,h3.go g⟩
theorem HasOk.del {F:Nat→Prop} {w:World} {f:Bs→Option Value} {its:dO} (h:HasOk F w f its) (key:Bs):HasOk F w (delF f key) (gV key its):=λ k=>by
 by_cases hk:k=key
 ·subst hk
  exact .inl ⟨by simp [delF],λ y hy=>(delI_iff.1 hy).2⟩
 ·rcases h k with ⟨h1,h2⟩|⟨u,v,h1,h2,h3⟩
  ·exact .inl ⟨by unfold delF;rw [if_neg hk];exact h1,λ y hy=>h2 y (delI_iff.1 hy).1⟩
  ·exact .inr ⟨u,v,by unfold delF;rw [if_neg hk];exact h1,delI_iff.2 ⟨h2,hk⟩,h3⟩
theorem HasOk.put {F:Nat→Prop} {w:World} {f:Bs→Option Value} {its:dO} (h:HasOk F w f its) (hs:Srt its) {key v:Bs} {u:Value} (hu:BsAt F w u v):HasOk F w (upG f key u) (gU key v its):=λ k=>by
 by_cases hk:k=key
 ·subst hk
  exact .inr ⟨u,v,by simp [upG],(insI_iff hs).2 (.inl rfl),hu⟩
 ·rcases h k with ⟨h1,h2⟩|⟨u',v',h1,h2,h3⟩
  ·refine .inl ⟨by unfold upG;rw [if_neg hk];exact h1,λ y hy=>?_⟩
   rcases (insI_iff hs).1 hy with rfl|⟨hy,_⟩
   ·exact λ e=>hk e.symm
   ·exact h2 y hy
  ·exact .inr ⟨u',v',by unfold upG;rw [if_neg hk];exact h1,(insI_iff hs).2 (.inr ⟨h2,hk⟩),h3⟩
theorem HasOk.no {F:Nat→Prop} {w:World} {f:Bs→Option Value} {its:dO} (h:HasOk F w f its) {k:Bs} (hn:¬ ∃ y∈its,y.1=k):f k=none:=by
 rcases h k with ⟨h1,h2⟩|⟨u,v,h1,h2,h3⟩
 ·exact h1
 ·exact absurd ⟨_,h2,rfl⟩ hn
theorem HasOk.yes {F:Nat→Prop} {w:World} {f:Bs→Option Value} {its:dO} (h:HasOk F w f its) (hs:Srt its) {k v:Bs} (hm:(k,v)∈its):∃ u,f k=some u∧BsAt F w u v:=by
 rcases h k with ⟨h1,h2⟩|⟨u,v',h1,h2,h3⟩
 ·exact absurd rfl (h2 _ hm)
 ·rw [srt_uniq hs hm h2];exact ⟨u,h1,h3⟩
theorem HasOk.keys {F:Nat→Prop} {w:World} {f:Bs→Option Value} {its:dO} (h:HasOk F w f its) (k:Bs):(∃ v,f k=some v)↔k∈its.map (·.1):=by
 rcases h k with ⟨h1,h2⟩|⟨u,v,h1,h2,h3⟩
 ·rw [h1]
  exact ⟨(λ ⟨v,e⟩=>by cases e),λ hk=>by
   obtain ⟨y,hy,e⟩:=List.mem_map.1 hk
   exact absurd e (h2 y hy)⟩
 ·exact ⟨λ _=>List.mem_map.2 ⟨_,h2,rfl⟩,λ _=>⟨u,h1⟩⟩
def rootVs (rs:List (Option Nat)):List Value:=rs.map λ r=>.int .i64 (dF r)
def txtVs (ts:List Bs):List Value:=ts.map λ t=>.string (iH t)
def Fv (L:PL) (m:Nat) (rv tv:Value) (k:Nat):Prop:=¬ L.S k∧k≠m∧rv.ownBlock≠some k∧tv.ownBlock≠some k
structure Hd (B:Nat) (v:World) (L:PL) (m:Nat) (rv tv:Value) (rs:List (Option Nat)) (ts:List Bs) (f:Bs→Option Value) (its:dO):Prop where
 r:v.ownsRow B 3 1 rv rs.length (rootVs rs)
 t:v.ownsRow B 9 1 tv ts.length (txtVs ts)
 rn:∀ k,rv.ownBlock=some k→¬ L.S k∧k≠m∧tv.ownBlock≠some k
 tn:∀ k,tv.ownBlock=some k→¬ L.S k∧k≠m
 dn:rv.ownBlock≠some L.d∧tv.ownBlock≠some L.d
 mp:MapG keyS okS v m f
 mn:¬ L.S m∧B≤m∧m≠L.d
 has:HasOk (Fv L m rv tv) v f its
variable {B:Nat} {v v':World} {L:PL} {m:Nat} {rv tv:Value} {rs:List (Option Nat)} {ts:List Bs} {f:Bs→Option Value} {its:dO}
theorem Hd.grow (h:Hd B v L m rv tv rs ts f its) (g:Grow v v'):Hd B v' L m rv tv rs ts f its :=
 ⟨cL h.r g,cL h.t g,h.rn,h.tn,h.dn,h.mp.grow g,h.mn,h.has.go (Carry.grow g)⟩
theorem Hd.buts (h:Hd B v L m rv tv rs ts f its) (b:ButS L.S v v'):Hd B v' L m rv tv rs ts f its :=
 ⟨eZ h.r λ k hk hv=>b.block k (cJ h.r hv).2 (h.rn k hv).1,eZ h.t λ k hk hv=>b.block k (cJ h.t hv).2 (h.tn k hv).1,h.rn,h.tn,h.dn,h.mp.keep (b.block m h.mp.lt h.mn.1),h.mn,h.has.go (Carry.buts b λ k hk _=>hk.1)⟩
theorem Hd.upd (h:Hd B v L m rv tv rs ts f its) (u:Upd m v v') {f':Bs→Option Value} {its':dO} (mp:MapG keyS okS v' m f') (hh:HasOk (Fv L m rv tv) v f' its'):Hd B v' L m rv tv rs ts f' its' :=
 ⟨eZ h.r λ k hk hv=>u.block k (h.rn k hv).2.1,eZ h.t λ k hk hv=>u.block k (h.tn k hv).2,h.rn,h.tn,h.dn,mp,h.mn,hh.go (Carry.upd u λ k hk _=>hk.2.1)⟩
theorem Hd.pages {L':PL} (h:Hd B v L m rv tv rs ts f its) (h1:L'.p=L.p) (h0:L'.d=L.d) (h2:L'.m=L.m) (h3:v.heap.size≤L'.u) (b:ButS (λ k=>k=L.p) v v'):Hd B v' L' m rv tv rs ts f its:=by
 have hS:∀ k,k<v.heap.size→¬ L.S k→¬ L'.S k:=λ k hk hn hS=>by
  unfold PL.S at hn hS
  rw [h1,h2] at hS
  rcases hS with hS|hS|hS
  ·omega
  ·exact hn (.inr (.inl hS))
  ·exact hn (.inr (.inr hS))
 have hp:∀ k,¬ L.S k→k≠L.p:=λ k hn e=>hn (.inr (.inr e))
 refine ⟨eZ h.r λ k hk hv=>b.block k (cJ h.r hv).2 (hp k (h.rn k hv).1),eZ h.t λ k hk hv=>b.block k (cJ h.t hv).2 (hp k (h.tn k hv).1),λ k hv=>⟨hS k (cJ h.r hv).2 (h.rn k hv).1,(h.rn k hv).2⟩,λ k hv=>⟨hS k (cJ h.t hv).2 (h.tn k hv).1,(h.tn k hv).2⟩,h0▸h.dn,h.mp.keep (b.block m h.mp.lt (hp m h.mn.1)),⟨hS m h.mp.lt h.mn.1,h.mn.2.1,h0▸h.mn.2.2⟩,h.has.go ?_⟩
 exact (Carry.mono (F':=λ k=>Fv L m rv tv k∧k<v.heap.size) λ k hk hl=>⟨hk,hl⟩).trans ((Carry.buts b λ k hk _=>hp k hk.1.1).trans (Carry.mono λ k hk _=>⟨hS k hk.2 hk.1.1,hk.1.2⟩))
theorem mS {v v':World} {rv rv':Value} (car:∀ G:Nat→Prop,Carry (λ j=>G j∧rv.ownBlock≠some j) v (λ j=>G j∧rv'.ownBlock≠some j) v') {j:Nat} (h:rv'.ownBlock=some j):rv.ownBlock=some j∨v.heap.size≤j:=by
 by_cases h1:rv.ownBlock=some j
 ·exact .inl h1
 ·rcases Nat.lt_or_ge j v.heap.size with h2|h2
  ·exact absurd h ((car (λ x=>x=j)).blk j ⟨rfl,h1⟩ h2).1.2
  ·exact .inr h2
theorem Hd.pushR (h:Hd B v L m rv tv rs ts f its) (hl:∀ k,L.S k∨k=L.d→k<v.heap.size) {rv':Value} {r:Option Nat} (ho:v'.ownsRow B 3 1 rv' (rs.length+1) (rootVs rs++[.int .i64 (dF r)])) (gb:v.grownBy v' rv.ownBlock) (car:∀ G:Nat→Prop,Carry (λ j=>G j∧rv.ownBlock≠some j) v (λ j=>G j∧rv'.ownBlock≠some j) v'):Hd B v' L m rv' tv (rs++[r]) ts f its:=by
 have ht:=eZ (w':=v') h.t λ k hk hv=>gb.block k (cJ h.t hv).2 λ e=>(h.rn k e.symm).2.2 hv
 refine ⟨by rw [List.length_append,rootVs,List.map_append];exact ho,ht,λ k hk=>?_,h.tn,⟨λ e=>(mS car e).elim h.dn.1 λ h1=>by have:=hl _ (.inr rfl);omega,h.dn.2⟩,h.mp.keep (gb.block m h.mp.lt λ e=>(h.rn m e.symm).2.1 rfl),h.mn,h.has.go ?_⟩
 ·rcases mS car hk with h1|h1
  ·exact h.rn k h1
  ·refine ⟨λ hS=>by have:=hl k (.inl hS);omega,λ e=>by have:=h.mp.lt;omega,λ e=>by have:=(cJ h.t e).2;omega⟩
 ·exact (Carry.mono (F':=λ j=>(¬ L.S j∧j≠m∧tv.ownBlock≠some j)∧rv.ownBlock≠some j) λ k hk _=>⟨⟨hk.1,hk.2.1,hk.2.2.2⟩,hk.2.2.1⟩).trans ((car _).trans (Carry.mono λ k hk _=>⟨hk.1.1,hk.1.2.1,hk.2,hk.1.2.2⟩))
theorem Hd.pushT (h:Hd B v L m rv tv rs ts f its) (hl:∀ k,L.S k∨k=L.d→k<v.heap.size) {tv':Value} {t:Bs} (ho:v'.ownsRow B 9 1 tv' (ts.length+1) (txtVs ts++[.string (iH t)])) (gb:v.grownBy v' tv.ownBlock) (car:∀ G:Nat→Prop,Carry (λ j=>G j∧tv.ownBlock≠some j) v (λ j=>G j∧tv'.ownBlock≠some j) v'):Hd B v' L m rv tv' rs (ts++[t]) f its:=by
 have hr:=eZ (w':=v') h.r λ k hk hv=>gb.block k (cJ h.r hv).2 λ e=>(h.rn k hv).2.2 e.symm
 refine ⟨hr,by rw [List.length_append,txtVs,List.map_append];exact ho,λ k hk=>⟨(h.rn k hk).1,(h.rn k hk).2.1,λ e=>?_⟩,λ k hk=>?_,⟨h.dn.1,λ e=>(mS car e).elim h.dn.2 λ h1=>by have:=hl _ (.inr rfl);omega⟩,h.mp.keep (gb.block m h.mp.lt λ e=>(h.tn m e.symm).2 rfl),h.mn,h.has.go ?_⟩
 ·rcases mS car e with h1|h1
  ·exact (h.rn k hk).2.2 h1
  ·have:=(cJ h.r hk).2;omega
 ·rcases mS car hk with h1|h1
  ·exact h.tn k h1
  ·exact ⟨λ hS=>by have:=hl k (.inl hS);omega,λ e=>by have:=h.mp.lt;omega⟩
 ·exact (Carry.mono (F':=λ j=>(¬ L.S j∧j≠m∧rv.ownBlock≠some j)∧tv.ownBlock≠some j) λ k hk _=>⟨⟨hk.1,hk.2.1,hk.2.2.1⟩,hk.2.2.2⟩).trans ((car _).trans (Carry.mono λ k hk _=>⟨hk.1.1,hk.1.2.1,hk.1.2.2,hk.2⟩))
end Go.Proofs.YtfpadnmdafiddaaGreatDoor
namespace Go.Proofs.YtfpadnmdafiddaaGreatDoor
open Go Go.RowKit Go.V
instance:MapTy Tryz.prog 42 9 30:=⟨by kernel_rfl⟩
abbrev Hist:=List (Option Nat×Nat×dO×List Nat)
structure Lc (w v:World) (m Lp i n:Nat) (L:PL) (g:Pg) (root:Option Nat) (lv:Nat) (its:dO) (ps:List Nat) (f:Bs→Option Value) (rv tv:Value) (hs:Hist):Prop where
 p:L.p=Lp
 pg:PgW v L g
 new:∀ b,b=L.p∨b=L.d∨b=L.u∨b=L.m→w.heap.size≤b
 hd:Hd w.heap.size v L m rv tv (hs.map (·.1)) (hs.map λ h=>iL h.2.2.1) f its
 len:hs.length=i
 tr:TrAt g root lv its ps
 old:∀ (j:Nat) (h:Option Nat×Nat×dO×List Nat),hs[j]? = some h→i≤j+3→TrAt g h.1 h.2.1 h.2.2.1 h.2.2.2∧h.2.2.1.length≤80
 il:its.length≤n
 cnt:g.count=200
 gr:Grow w v
theorem Lc.grow {w v v':World} {m Lp i n:Nat} {L:PL} {g:Pg} {root:Option Nat} {lv:Nat} {its:dO} {ps:List Nat} {f:Bs→Option Value} {rv tv:Value} {hs:Hist} (h:Lc w v m Lp i n L g root lv its ps f rv tv hs) (gr:Grow v v'):Lc w v' m Lp i n L g root lv its ps f rv tv hs :=
 ⟨h.p,h.pg.grow gr,h.new,h.hd.grow gr,h.len,h.tr,h.old,h.il,h.cnt,h.gr.trans gr⟩
theorem PgW.upd' {v v':World} {L:PL} {g:Pg} {b:Nat} (h:PgW v L g) (u:Upd b v v') (hS:¬ L.S b) (hd:b≠L.d∧b≠0):PgW v' L g :=
 ⟨h.at_.upd u ⟨λ e=>hS (.inr (.inr e)),hd.1,λ e=>hS (.inl e),λ e=>hS (.inr (.inl e))⟩,h.tab.keep (u.block 0 (Ne.symm hd.2)) (Nat.le_of_eq u.size.symm),h.ne0⟩
theorem PgW.own {v v':World} {L:PL} {g:Pg} {rv:Value} (h:PgW v L g) (gb:v.grownBy v' rv.ownBlock) (hn:∀ b,b=L.p∨b=L.d∨b=L.u∨b=L.m→rv.ownBlock≠some b) (h0:rv.ownBlock≠some 0):PgW v' L g :=
 ⟨h.at_.keep (λ b hb=>gb.block b (by have:=h.at_.lts;omega) λ e=>hn b hb e.symm),h.tab.keep (gb.block 0 h.tab.1 λ e=>h0 e.symm) gb.size,h.ne0⟩
theorem Lc.next {w v v':World} {m Lp i:Nat} {L:PL} {g g':Pg} {root root':Option Nat} {lv lv':Nat} {its its':dO} {ps ps':List Nat} {f f':Bs→Option Value} {rv tv:Value} {hs:Hist} (h:Lc w v m Lp i i L g root lv its ps f rv tv hs) (pg:PgW v' L g') (ext:Ext g g') (tr:TrAt g' root' lv' its' ps')
  (hd:Hd w.heap.size v' L m rv tv (hs.map (·.1)) (hs.map λ h=>iL h.2.2.1) f' its') (il:its'.length≤i+1) (gr:Grow w v'):Lc w v' m Lp i (i+1) L g' root' lv' its' ps' f' rv tv hs :=
 ⟨h.p,pg,h.new,hd,h.len,tr,λ j q hj h3=>⟨(h.old j q hj h3).1.ext ext,(h.old j q hj h3).2⟩,il,ext.count.trans h.cnt,gr⟩
theorem Lc.gr2 {w v v':World} {m Lp i n:Nat} {L:PL} {g:Pg} {root:Option Nat} {lv:Nat} {its:dO} {ps:List Nat} {f:Bs→Option Value} {rv tv:Value} {hs:Hist} (h:Lc w v m Lp i n L g root lv its ps f rv tv hs) (b:ButS L.S v v'):Grow w v' :=
 grow_many h.gr b λ k hk=>h.new k (by unfold PL.S at hk;rcases hk with h|h|h<;>simp [h])
theorem str_is:KeyIs Tryz.prog 9 keyS okS:=inferInstance
theorem holds_c {F:Nat→Prop} {w:World} {a:Option Addr} {n c:Nat} {cs:List Value} {l:List (Int×Bs×Bs)} (htab:TabAt w) (hs0:Sl F w 3 a n c cs) (ha0:ActCells F w cs l) (hn:n=l.length) (hby:∀ x∈l,kD x.2.1∧kD x.2.2) (hki:∀ x∈l,-9223372036854775808≤x.1∧x.1≤9223372036854775807) :
  Calls Tryz.prog 4 #[.slice a n c] w (Ret λ v w'=>v=.bool true∧Grow w w'):=by
 obtain ⟨F0,hF0⟩:∃ F0:Nat→Prop,∀ k,F0 k↔k<w.heap.size:=⟨_,λ _=>Iff.rfl⟩
 have hs:Sl F0 w 3 a n c cs:=hs0.go (Carry.mono λ k _ hl=>(hF0 k).2 hl)
 have ha:ActCells F0 w cs l:=ha0.go (Carry.mono λ k _ hl=>(hF0 k).2 hl)
 clear hs0 ha0
 have hnm:=hs.le
 subst hn
 refine V.calls (args:=[_]) Tryz.func4 rfl Tryz.ntmps4 rfl rfl ?_
 repeat (first|(refine aD ?_;refine TL.pure rfl rfl ?_)|refine TL.nil ?_|refine aA ?_|refine aJ ?_|refine aC ?_)
 refine aL 13 ?_
 refine aI (vs:=[]) rfl (lives_c w htab) rfl ?_
 rintro _ w1 ⟨rfl,hg1⟩
 repeat (first|(refine aB ?_;refine TL.pure rfl rfl ?_)|refine TL.nil ?_|refine aA ?_|refine aJ ?_|refine aC ?_|refine aE rfl ?_|refine aW ?_|refine TL.pure rfl rfl ?_)
 refine aL 14 ?_
 refine aI rfl (small_c (hs.grow hg1) (ha.go (Carry.grow hg1)) rfl) rfl ?_
 rintro _ w2 ⟨rfl,hg2⟩
 have hg02:=hg1.trans hg2
 cases hsm:kZ l with
 | false =>
  repeat (first|(refine aD ?_;refine TL.pure rfl rfl ?_)|refine TL.nil ?_|refine aA ?_|refine aJ ?_|refine aC ?_|refine aM rfl ?_|refine bE ?_|refine bI ?_|refine TL.pure rfl rfl ?_)
  exact cI rfl ⟨_,rfl,rfl,hg02⟩
 | true =>
  have hsml:l.length≤80∧∀ x∈l,x.2.1.length≤100∧x.2.2.length≤100:=by
   simp only [kZ,Bool.and_eq_true,decide_eq_true_eq,List.all_eq_true] at hsm
   exact hsm
  obtain ⟨hl80,hsml⟩:=hsml
  repeat (first|refine TL.nil ?_|refine aA ?_|refine aJ ?_|refine aC ?_|refine aE rfl ?_|refine aW ?_|refine TL.pure rfl rfl ?_)
  refine aL 15 ?_
  refine aI rfl (started_c 200 w2 (by omega) (by omega)) rfl ?_
  rintro _ w3 ⟨L0,rfl,hL0,hp0,hg3⟩
  have z1:=hg1.size
  have z2:=hg2.size
  have hg03:Grow w w3:=hg02.trans hg3
  have t3:TabAt w3:=htab.grow hg03
  have h00:=htab.1
  have hpp:PgW w3 L0 (pg0 200):=⟨hp0,t3,λ h=>by
   unfold PL.S at h
   rcases h with h|h|h
   ·have:=hL0 L0.u (by simp);omega
   ·have:=hL0 L0.m (by simp);omega
   ·have:=hL0 L0.p (by simp);omega⟩
  have hLw:∀ b,b=L0.p∨b=L0.d∨b=L0.u∨b=L0.m→w.heap.size≤b:=λ b hb=>by have:=hL0 b hb;omega
  have hlts:=hp0.lts
  repeat (first|(refine TL.isMakeMap ?_;refine TL.makeMapG (α:=Bs) (κ:=keyS) (ok:=okS) rfl ?_;intro m w5 hg5 hm5 hs5 hs5')|(refine aB ?_;refine TL.pure rfl rfl ?_)|(refine aD ?_;refine TL.pure rfl rfl ?_)|refine TL.nil ?_|refine aA ?_|refine aJ ?_|refine aC ?_|refine T.block ?_|refine aE rfl ?_|refine aW ?_|refine TL.pure rfl rfl ?_)
  have hpp5:=hpp.grow hg5
  have hg05:=hg03.trans hg5
  have hmS:¬ L0.S m:=λ h=>by unfold PL.S at h;omega
  have hz3:=hg03.size
  have hHd:Hd w.heap.size w5 L0 m (.slice none 0 0) (.slice none 0 0) [] [] (λ _=>none) []:=⟨kQ,kQ,(λ k hk=>by cases hk),(λ k hk=>by cases hk),⟨(λ h=>by cases h),(λ h=>by cases h)⟩,hm5,⟨hmS,by omega,by omega⟩,λ k=>.inl ⟨rfl,by simp⟩⟩
  clear hL0 hp0 hg1 hg2 hg02 z1 z2 t3 hsm hg3 hpp hg03 hm5 hlts
  repeat (refine aJ ?_)
  refine cU (S:=Nat×PL×Pg×Option Nat×(Bs→Option Value)×Value×Value×dO×Hist) (λ q=>[(9,.int .i64 (q.1:Int)),(8,q.2.2.2.2.2.2.1),(7,q.2.2.2.2.2.1),(6,.int .i64 (dF q.2.2.2.1)),(5,.map (some m)),(3,.pointer (some ⟨L0.p,0,none⟩)),(0,.slice a l.length c)])
   (λ q v=>q.1≤l.length∧∃ lv ps,Lc w v m L0.p q.1 q.1 q.2.1 q.2.2.1 q.2.2.2.1 lv q.2.2.2.2.2.2.2.1 ps q.2.2.2.2.1 q.2.2.2.2.2.1 q.2.2.2.2.2.2.1 q.2.2.2.2.2.2.2.2∧(q.2.2.2.2.2.2.2.2[q.1-1]? = some (q.2.2.2.1,lv,q.2.2.2.2.2.2.2.1,ps)∨(q.1=0∧32≤bZ q.2.2.1)))
   (λ q=>l.length-q.1) (0,L0,pg0 200,none,λ _=>none,.slice none 0 0,.slice none 0 0,[],[]) ⟨rfl,rfl,rfl,rfl,rfl,rfl,rfl,trivial⟩
   ⟨Nat.zero_le _,0,[],⟨rfl,hpp5,hLw,hHd,rfl,⟨rfl,rfl,rfl⟩,(λ j h hj=>by simp at hj),Nat.zero_le _,rfl,hg05⟩,.inr ⟨rfl,by simp only [spare_pg0];omega⟩⟩ ?_
  clear hpp5 hLw hHd hg05 hg5 hmS hs5 hs5' hz3
  rintro ⟨i,L,g,root,f,rv,tv,its,hst⟩ v ⟨hi,lv,ps,hC,hcur⟩
  simp only at hi hC hcur
  refine dD (e':=[(9,.int .i64 (i:Int)),(8,tv),(7,rv),(6,.int .i64 (dF root)),(5,.map (some m)),(3,.pointer (some ⟨L.p,0,none⟩)),(0,.slice a l.length c)]) ?_ ⟨rfl,rfl,rfl,rfl,rfl,by rw [hC.p];rfl,rfl,trivial⟩
  by_cases hlt:i<l.length
  rotate_left
  ·repeat (first|(refine aB ?_;refine TL.pure rfl rfl ?_)|(refine aD ?_;refine TL.pure rfl rfl ?_)|refine TL.nil ?_|refine aA ?_|refine aJ ?_|refine aC ?_|(refine aH ?_;refine aQ rfl yD rfl ?_)|refine aO rfl rfl ?_|refine aE rfl ?_|refine bE ?_|refine cV ?_|refine bN ?_|refine bP ?_|refine bO ?_)
   exact cI rfl ⟨_,rfl,rfl,hC.gr⟩
  obtain ⟨x,hx⟩:∃ q,l[i]? = some q:=⟨_,List.getElem?_eq_getElem hlt⟩
  have hxm:=List.mem_of_getElem? hx
  obtain ⟨hx1,hx2⟩:=hsml x hxm
  obtain ⟨hb1,hb2⟩:=hby x hxm
  obtain ⟨hk1,hk2⟩:=hki x hxm
  obtain ⟨kv0,vv0,g0,g1,g2,hkx0,hvx0⟩:=ha.at' hx
  obtain ⟨ka,kc,rfl,hks⟩:=hkx0.sl
  obtain ⟨va,vc,rfl,hvs⟩:=hvx0.sl
  clear hkx0 hvx0 hxm hby hki hsml
  have hlv:lv≤3:=hC.tr.levels (k:=3) (by omega) (by have:=hC.il;omega)
  have hokS:okS x.2.1:=⟨hb1,by omega⟩
  have hf0:∀ k,F0 k→k<w.heap.size:=λ k h=>(hF0 k).1 h
  refine fQ 1 (λ e' w'=>Sub [(9,.int .i64 (i:Int)),(8,tv),(7,rv),(6,.int .i64 (dF root)),(5,.map (some m)),(3,.pointer (some ⟨L.p,0,none⟩)),(0,.slice a l.length c)] e'∧v=w') ?_ ?_
  rotate_left
  ·repeat (first|(refine aB ?_;refine TL.pure rfl rfl ?_)|refine TL.nil ?_|refine aA ?_|refine aJ ?_|refine aC ?_|(refine aH ?_;refine aZ rfl yD rfl ?_)|refine aO rfl rfl ?_|refine aM rfl ?_|refine aW ?_|refine bB ?_|refine cQ ?_|refine bY ?_)
   exact ⟨⟨rfl,rfl,rfl,rfl,rfl,rfl,rfl,trivial⟩,rfl⟩
  rintro e1 _ ⟨hsub,rfl⟩
  refine dD (e':=[(9,.int .i64 (i:Int)),(8,tv),(7,rv),(6,.int .i64 (dF root)),(5,.map (some m)),(3,.pointer (some ⟨L.p,0,none⟩)),(0,.slice a l.length c)]) ?_ hsub
  clear hsub e1
  refine aJ (T.block ?_)
  refine fQ 3 (λ e' v'=>∃ (b:Nat) (th:Bool),Sub [(13,.bool th),(11,.string (iH x.2.1)),(10,.pointer (some ⟨b,0,none⟩)),(9,.int .i64 (i:Int)),(8,tv),(7,rv),(6,.int .i64 (dF root)),(5,.map (some m)),(3,.pointer (some ⟨L.p,0,none⟩)),(0,.slice a l.length c)] e' ∧
   (th=true↔∃ y∈its,y.1=x.2.1)∧Blk v' b 32 [.int .i64 x.1,.slice ka x.2.1.length kc,.slice va x.2.2.length vc]∧v.heap.size≤b∧Grow v v') ?_ ?_
  rotate_left
  ·have hcx:∀ j u,[Value.int .i64 x.1,.slice ka x.2.1.length kc,.slice va x.2.2.length vc][j]? = some u→cs[i*3+j]? = some u:=λ j u hj=>by
    match j,hj with
    | 0,hj=>simp only [List.getElem?_cons_zero,Option.some.injEq] at hj;subst hj;exact g0
    | 1,hj=>simp only [List.getElem?_cons_succ,List.getElem?_cons_zero,Option.some.injEq] at hj;subst hj;exact g1
    | 2,hj=>simp only [List.getElem?_cons_succ,List.getElem?_cons_zero,Option.some.injEq] at hj;subst hj;exact g2
    | j+3,hj=>simp at hj
   have hsv:=hs.grow hC.gr
   by_cases hth:∃ y∈its,y.1=x.2.1
   ·obtain ⟨⟨ky,vy⟩,hy,hye⟩:=id hth
    simp only at hye
    subst hye
    obtain ⟨u,hfu,_⟩:=hC.hd.has.yes hC.tr.srt hy
    repeat (first|(refine bC ?_;refine aV (j:=i) rfl rfl rfl hlt rfl ⟨_,_,hsv⟩ rfl ?_)|refine eL rfl hsv hcx rfl rfl ?_|(refine cR ?_;refine gA rfl (hks.grow (hC.gr.trans yG)) rfl ?_)|(refine gR ?_;refine TL.lookYesG (κ:=keyS) (ok:=okS) rfl rfl (hC.hd.mp.grow yG) hfu hokS rfl ?_)|(refine aB ?_;refine TL.pure rfl rfl ?_)|(refine aD ?_;refine TL.pure rfl rfl ?_)|refine aK rfl yM rfl ?_|refine aF rfl rfl ?_|refine TL.nil ?_|refine aC ?_|(refine aP ?_;(refine bA rfl rfl yB (by exact rfl) (by exact rfl) (by exact rfl) ?_;intro w' hu hbk hsz))|(refine bF ?_;(refine TL.alloc rfl rfl ?_;intro bk w' hg hbk hsz hsz'))|refine TL.pure rfl rfl ?_|refine bB ?_|refine cQ ?_|refine bY ?_)
    exact ⟨bk,true,⟨rfl,rfl,rfl,rfl,rfl,rfl,rfl,rfl,rfl,rfl,trivial⟩,⟨λ _=>hth,λ _=>rfl⟩,hbk,by omega,aX hu (by omega) hg⟩
   ·have hfn:=hC.hd.has.no hth
    repeat (first|(refine bC ?_;refine aV (j:=i) rfl rfl rfl hlt rfl ⟨_,_,hsv⟩ rfl ?_)|refine eL rfl hsv hcx rfl rfl ?_|(refine cR ?_;refine gA rfl (hks.grow (hC.gr.trans yG)) rfl ?_)|(refine gR ?_;refine TL.lookNoG (κ:=keyS) (ok:=okS) rfl rfl (hC.hd.mp.grow yG) hfn hokS rfl ?_)|(refine aB ?_;refine TL.pure rfl rfl ?_)|(refine aD ?_;refine TL.pure rfl rfl ?_)|refine aK rfl yM rfl ?_|refine aF rfl rfl ?_|refine TL.nil ?_|refine aC ?_|(refine aP ?_;(refine bA rfl rfl yB (by exact rfl) (by exact rfl) (by exact rfl) ?_;intro w' hu hbk hsz))|(refine bF ?_;(refine TL.alloc rfl rfl ?_;intro bk w' hg hbk hsz hsz'))|refine TL.pure rfl rfl ?_|refine bB ?_|refine cQ ?_|refine bY ?_)
    exact ⟨bk,false,⟨rfl,rfl,rfl,rfl,rfl,rfl,rfl,rfl,rfl,rfl,trivial⟩,⟨(λ e=>by cases e),λ e=>absurd e hth⟩,hbk,by omega,aX hu (by omega) hg⟩
  rintro e1 v1 ⟨b10,th,hsub,hth,hb10,hb10n,hgv1⟩
  refine dD (e':=[(13,.bool th),(11,.string (iH x.2.1)),(10,.pointer (some ⟨b10,0,none⟩)),(9,.int .i64 (i:Int)),(8,tv),(7,rv),(6,.int .i64 (dF root)),(5,.map (some m)),(3,.pointer (some ⟨L.p,0,none⟩)),(0,.slice a l.length c)]) ?_ hsub
  clear hsub e1
  have hC1:=hC.grow hgv1
  have hbS0:¬ L.S b10:=λ h=>by have:=hC.pg.at_.lts;unfold PL.S at h;omega
  have hbm0:b10≠m:=λ h=>by have:=hC.hd.mp.lt;omega
  have hbl0:b10<v1.heap.size:=hb10.lt
  refine fQ 1 (λ e' v'=>Sub [(14,.bool (dB x.2.1)),(13,.bool th),(11,.string (iH x.2.1)),(10,.pointer (some ⟨b10,0,none⟩)),(9,.int .i64 (i:Int)),(8,tv),(7,rv),(6,.int .i64 (dF root)),(5,.map (some m)),(3,.pointer (some ⟨L.p,0,none⟩)),(0,.slice a l.length c)] e'∧v1=v') ?_ ?_
  rotate_left
  ·by_cases c1:1≤x.2.1.length
   ·by_cases c2:x.2.1.length≤16
    ·have hko:dB x.2.1=true:=by simp [dB,c1,c2]
     rw [hko]
     repeat (first|refine aU rfl rfl rfl ?_|(refine aB ?_;refine TL.pure rfl rfl ?_)|(refine aD ?_;refine TL.pure rfl rfl ?_)|refine aK rfl yM rfl ?_|refine aF rfl rfl ?_|refine TL.nil ?_|refine aC ?_|(refine aH ?_;refine aZ rfl yD rfl ?_)|refine aO rfl rfl ?_|refine TL.pure rfl rfl ?_|refine bB ?_|refine cQ ?_|refine bY ?_)
     exact ⟨⟨rfl,rfl,rfl,rfl,rfl,rfl,rfl,rfl,rfl,rfl,rfl,trivial⟩,rfl⟩
    ·have hko:dB x.2.1=false:=by simp [dB,c1,c2]
     rw [hko]
     repeat (first|refine aU rfl rfl rfl ?_|(refine aB ?_;refine TL.pure rfl rfl ?_)|(refine aD ?_;refine TL.pure rfl rfl ?_)|refine aK rfl yM rfl ?_|refine aF rfl rfl ?_|refine TL.nil ?_|refine aC ?_|(refine aH ?_;first|refine aZ rfl yD rfl ?_|refine aQ rfl yD rfl ?_)|refine aO rfl rfl ?_|refine TL.pure rfl rfl ?_|refine bB ?_|refine cQ ?_|refine bY ?_)
     exact ⟨⟨rfl,rfl,rfl,rfl,rfl,rfl,rfl,rfl,rfl,rfl,rfl,trivial⟩,rfl⟩
   ·have hko:dB x.2.1=false:=by simp [dB,c1]
    rw [hko]
    repeat (first|refine bH rfl rfl rfl ?_|(refine aB ?_;refine TL.pure rfl rfl ?_)|(refine aD ?_;refine TL.pure rfl rfl ?_)|refine aK rfl yM rfl ?_|refine aF rfl rfl ?_|refine TL.nil ?_|refine aC ?_|(refine aH ?_;refine aQ rfl yD rfl ?_)|refine aO rfl rfl ?_|refine TL.pure rfl rfl ?_|refine bB ?_|refine cQ ?_|refine bY ?_)
    exact ⟨⟨rfl,rfl,rfl,rfl,rfl,rfl,rfl,rfl,rfl,rfl,rfl,trivial⟩,rfl⟩
  rintro e1 _ ⟨hsub,rfl⟩
  refine dD (e':=[(14,.bool (dB x.2.1)),(13,.bool th),(11,.string (iH x.2.1)),(10,.pointer (some ⟨b10,0,none⟩)),(9,.int .i64 (i:Int)),(8,tv),(7,rv),(6,.int .i64 (dF root)),(5,.map (some m)),(3,.pointer (some ⟨L.p,0,none⟩)),(0,.slice a l.length c)]) ?_ hsub
  clear hsub e1 hC
  refine fQ 1 (λ e' v'=>∃ (L':PL) (g':Pg),Sub [(14,.bool (dB x.2.1)),(13,.bool th),(11,.string (iH x.2.1)),(10,.pointer (some ⟨b10,0,none⟩)),(9,.int .i64 (i:Int)),(8,tv),(7,rv),(6,.int .i64 (dF root)),(5,.map (some m)),(3,.pointer (some ⟨L'.p,0,none⟩)),(0,.slice a l.length c)] e' ∧
   Lc w v' m L0.p i i L' g' root lv its ps f rv tv hst∧32≤bZ g'∧Blk v' b10 32 [.int .i64 x.1,.slice ka x.2.1.length kc,.slice va x.2.2.length vc]∧¬ L'.S b10∧b10≠m∧b10<v'.heap.size) ?_ ?_
  rotate_left
  ·repeat (first|(refine aB ?_;refine TL.pure rfl rfl ?_)|refine aJ ?_|refine aC ?_|refine cQ ?_)
   refine aL 21 ?_
   refine aI rfl (sparet_c hC1.pg.at_) rfl ?_
   rintro _ v2 ⟨rfl,hg2⟩
   have hC2:=hC1.grow hg2
   have hbk2:=hb10.grow hg2
   have hz2:=hg2.size
   have hsc:bZ g≤200:=by have:=hC2.cnt;unfold bZ;omega
   by_cases hs32:bZ g<32
   rotate_left
   ·repeat (first|refine TL.nil ?_|refine aA ?_|(refine aH ?_;refine aQ rfl yD rfl ?_)|refine aE rfl ?_|refine aW ?_|refine bB ?_|refine bY ?_)
    exact ⟨L,g,⟨rfl,rfl,rfl,rfl,rfl,rfl,rfl,rfl,rfl,rfl,rfl,trivial⟩,hC2,by omega,hbk2,hbS0,hbm0,by omega⟩
   have hlast:hst[i-1]? = some (root,lv,its,ps):=hcur.resolve_right λ h=>by omega
   have hi0:i-1<i:=by have:=(List.getElem?_eq_some_iff.1 hlast).1;have:=hC2.len;omega
   have hlen:=hC2.len
   obtain ⟨ra,rc,rfl,hrs⟩:=bX hC2.hd.r
   have hrl:(hst.map (·.1)).length=i:=by rw [List.length_map,hlen]
   rw [hrl] at hrs hC1 hC2 ⊢
   repeat (first|(refine jG ?_;refine TL.maxV (r:=((i-3:Nat):Int)) rfl rfl (by split<;>omega) rfl ?_)|(refine aB ?_;refine TL.pure rfl rfl ?_)|(refine aD ?_;refine TL.pure rfl rfl ?_)|(refine cN ?_;refine iT rfl rfl (by omega) (by omega) rfl ?_)|refine TL.nil ?_|refine aA ?_|refine aJ ?_|refine aC ?_|refine T.block ?_|(refine aH ?_;refine aZ rfl yD rfl ?_)|refine aO rfl rfl ?_|refine aM rfl ?_)
   refine cU (S:=Nat×Value×List Nat) (λ q=>[(16,.int .i64 (q.1:Int)),(15,q.2.1),(14,.bool (dB x.2.1)),(13,.bool th),(11,.string (iH x.2.1)),(10,.pointer (some ⟨b10,0,none⟩)),(9,.int .i64 (i:Int)),(8,tv),(7,.slice ra i rc),(6,.int .i64 (dF root)),(5,.map (some m)),(3,.pointer (some ⟨L.p,0,none⟩)),(0,.slice a l.length c)])
    (λ q v3=>i-3≤q.1∧q.1≤i∧v3.ownsRow v2.heap.size 3 1 q.2.1 q.2.2.length (cM q.2.2)∧Grow v2 v3∧(∀ z∈q.2.2,dE g z=true)∧(∀ (j:Nat) (h:Option Nat×Nat×dO×List Nat),hst[j]? = some h→i-3≤j→j<q.1→∀ z∈h.2.2.2,z∈q.2.2)∧q.2.2.length≤28*(q.1-(i-3)))
    (λ q=>i-q.1) (i-3,.slice none 0 0,[]) ⟨rfl,rfl,rfl,rfl,rfl,rfl,rfl,rfl,rfl,rfl,rfl,rfl,rfl,trivial⟩ ⟨Nat.le_refl _,by simp only;omega,kQ,Grow.refl _,by simp,(λ j h _ h1 h2=>by simp only at h2;omega),by simp⟩ ?_
   rintro ⟨k,kv,qs⟩ v3 ⟨hk1',hk2',hown,hg23,hused,hcov,hql⟩
   simp only at hk1' hk2' hown hused hcov hql
   refine dD (e':=[(16,.int .i64 (k:Int)),(15,kv),(14,.bool (dB x.2.1)),(13,.bool th),(11,.string (iH x.2.1)),(10,.pointer (some ⟨b10,0,none⟩)),(9,.int .i64 (i:Int)),(8,tv),(7,.slice ra i rc),(6,.int .i64 (dF root)),(5,.map (some m)),(3,.pointer (some ⟨L.p,0,none⟩)),(0,.slice a l.length c)]) ?_ ⟨rfl,rfl,rfl,rfl,rfl,rfl,rfl,rfl,rfl,rfl,rfl,rfl,rfl,trivial⟩
   have hC3:=hC2.grow hg23
   have hz3:=hg23.size
   have hzw:=hC2.gr.size
   by_cases hkl:k<i
   ·obtain ⟨hh,hk⟩:∃ q,hst[k]? = some q:=⟨_,List.getElem?_eq_getElem (by omega)⟩
    obtain ⟨htk,h80⟩:=hC3.old k hh hk (by omega)
    have hrs3:=hrs.grow hg23
    have hcell:v3.cell? (at' ra k)=some (.int .i64 (dF hh.1)):=hrs3.row.cell (by simp [rootVs,hk])
    obtain ⟨M,hM,hd,hpM⟩:=tree_tr htk (by have:=htk.levels (k:=3) (by omega) (by omega);omega)
    have hr4:∀ n,hh.1=some n→n<4294967296:=λ n hn=>by
     have h1:=fH (htk.root_used n hn)
     have h2:=hC3.cnt
     omega
    have hpl:=htk.pages
    repeat (first|(refine bC ?_;refine aV (j:=k) rfl rfl rfl hkl (Nat.mul_one _) ⟨_,_,hrs3⟩ rfl ?_)|(refine aB ?_;refine TL.pure rfl rfl ?_)|refine aK rfl yM rfl ?_|refine TL.nil ?_|refine aA ?_|refine aJ ?_|refine aC ?_|refine T.block ?_|(refine aH ?_;refine aZ rfl yD rfl ?_)|refine aO rfl rfl ?_|refine aM rfl ?_|refine aW ?_)
    refine aL 22 ?_
    refine aI rfl (reach_c hC3.pg.at_ hr4 hM hpM (by omega)) rfl ?_
    rintro _ v4 ⟨ls,ar,cr,rfl,hsr,hls,hln,hg4⟩
    have hz4:=hg4.size
    repeat (first|(refine aB ?_;refine TL.pure rfl rfl ?_)|(refine aD ?_;refine TL.pure rfl rfl ?_)|refine TL.nil ?_|refine aA ?_|refine aJ ?_|refine aC ?_|(refine aH ?_;refine aQ rfl yD rfl ?_)|refine aE rfl ?_|refine aW ?_|refine TL.pure rfl rfl ?_)
    refine TL.append rfl rfl (cL hown hg4) hsr (jZ ls) (by unfold maxLen;omega) (by omega) (by omega) rfl ?_
    intro v9 w9 hown9 hgb9 _
    have hg9:Grow v2 w9:=grow_own (hg23.trans hg4) (cL hown hg4) hgb9
    have hown10:w9.ownsRow v2.heap.size 3 1 v9 (qs++ls).length (cM (qs++ls)):=by
     rw [List.length_append,cM,List.map_append]
     exact hown9
    repeat (first|(refine aB ?_;refine TL.pure rfl rfl ?_)|(refine aD ?_;refine TL.pure rfl rfl ?_)|(refine bL ?_;refine bT rfl rfl (by omega) rfl ?_)|refine TL.nil ?_|refine aA ?_|refine aC ?_|refine aS ?_)
    refine bG (k+1,v9,qs++ls) ⟨rfl,rfl,rfl,rfl,rfl,rfl,rfl,rfl,rfl,rfl,rfl,rfl,rfl,trivial⟩ ⟨by simp only;omega,by simp only;omega,hown10,hg9,λ z hz=>?_,λ j h hj h1 h2 z hz=>?_,?_⟩ (by simp only;omega)
    ·rcases List.mem_append.1 hz with hz|hz
     ·exact hused z hz
     ·exact htk.used z ((hls z).1 hz)
    ·by_cases hjk:j=k
     ·subst hjk
      rw [hk] at hj
      cases hj
      exact List.mem_append.2 (.inr ((hls z).2 hz))
     ·exact List.mem_append.2 (.inl (hcov j h hj h1 (by simp only at h2;omega) z hz))
    ·simp only [List.length_append]
     omega
   ·obtain rfl:k=i:=by omega
    obtain ⟨qa,qc,rfl,hqs⟩:=bX hown
    have hcn:=hC3.cnt
    have hlts:=hC3.pg.at_.lts
    repeat (first|(refine aB ?_;refine TL.pure rfl rfl ?_)|refine TL.nil ?_|refine aA ?_|refine aJ ?_|refine aC ?_|(refine aH ?_;refine aQ rfl yD rfl ?_)|refine aO rfl rfl ?_|refine aE rfl ?_|refine cV ?_|refine bN ?_|refine bP ?_|refine bO ?_)
    refine aL 23 ?_
    refine aI rfl (keep_c hC3.pg.at_ hqs (λ z hz=>(cJ hown hz.2).2) hused (by omega)) rfl ?_
    rintro _ v4 ⟨L',e1,e2,e3,e4,e5,⟨kk,rfl⟩,hp4,hb4⟩
    have hLn:∀ b,b=L'.p∨b=L'.d∨b=L'.u∨b=L'.m→w.heap.size≤b:=λ b hb=>by
     rcases hb with hb|hb|hb|hb
     ·rw [hb,e1];exact hC3.new _ (by simp)
     ·rw [hb,e2];exact hC3.new _ (by simp)
     ·omega
     ·rw [hb,e3];exact hC3.new _ (by simp)
    have hpw4:PgW v4 L' (keepP g qs):=⟨hp4,hC3.pg.tab.buts hb4 (λ h=>by have:=hC3.new L.p (by simp);omega),λ h=>by
     unfold PL.S at h
     have:=hLn 0 (by rcases h with h|h|h<;>simp [← h])
     omega⟩
    have hks:=keep_spare hC3.pg.at_.ok hused
    have hz4:=hb4.size
    have hgw4:Grow w v4:=grow_many hC3.gr hb4 λ z hz=>hC3.new z (.inl hz)
    have hb10':Blk v4 b10 32 [.int .i64 x.1,.slice ka x.2.1.length kc,.slice va x.2.2.length vc]:=dG (hbk2.grow hg23) hb4 (λ h=>hbS0 (.inr (.inr h)))
    have hbS':¬ L'.S b10:=λ h=>by
     unfold PL.S at h
     rw [e1,e3] at h
     rcases h with h|h|h
     ·omega
     ·exact hbS0 (.inr (.inl h))
     ·exact hbS0 (.inr (.inr h))
    have hnew:Lc w v4 m L0.p k k L' (keepP g qs) root lv its ps f (.slice ra k rc) tv hst:=⟨e1.trans hC3.p,hpw4,hLn,hC3.hd.pages e1 e2 e3 e5 hb4,hC3.len,hC3.tr.keep hC3.pg.at_.ok hused (λ z hz=>hcov (k-1) _ hlast (by omega) (by omega) z hz),λ j h hj h3=>⟨(hC3.old j h hj h3).1.keep hC3.pg.at_.ok hused (λ z hz=>hcov j h hj (by omega) (by have:=(List.getElem?_eq_some_iff.1 hj).1;omega) z hz),(hC3.old j h hj h3).2⟩,hC3.il,hC3.cnt,hgw4⟩
    repeat (first|(refine aB ?_;refine TL.pure rfl rfl ?_)|(refine aD ?_;refine TL.pure rfl rfl ?_)|refine TL.nil ?_|refine aA ?_|refine aJ ?_|refine aC ?_|(refine aH ?_;refine aQ rfl yD rfl ?_)|refine aE rfl ?_|refine aW ?_|refine TL.pure rfl rfl ?_|refine bB ?_|refine bY ?_)
    exact ⟨L',keepP g qs,⟨rfl,rfl,rfl,rfl,rfl,rfl,rfl,rfl,rfl,by rw [e1];rfl,rfl,trivial⟩,hnew,by omega,hb10',hbS',hbm0,by omega⟩
  rintro e1 v2 ⟨L',g',hsub,hC2,hsp,hbk2,hbS,hbm,hbl⟩
  refine dD (e':=[(14,.bool (dB x.2.1)),(13,.bool th),(11,.string (iH x.2.1)),(10,.pointer (some ⟨b10,0,none⟩)),(9,.int .i64 (i:Int)),(8,tv),(7,rv),(6,.int .i64 (dF root)),(5,.map (some m)),(3,.pointer (some ⟨L'.p,0,none⟩)),(0,.slice a l.length c)]) ?_ hsub
  clear hsub e1 hC1 hcur hb10 hgv1
  obtain ⟨L,rfl⟩:∃ z,z=L':=⟨L',rfl⟩
  obtain ⟨g,rfl⟩:∃ z,z=g':=⟨g',rfl⟩
  refine fQ 1 (λ e' v'=>∃ (g':Pg) (root':Option Nat) (lv':Nat) (its':dO) (ps':List Nat) (f':Bs→Option Value),Sub [(9,.int .i64 (i:Int)),(8,tv),(7,rv),(6,.int .i64 (dF root')),(5,.map (some m)),(3,.pointer (some ⟨L.p,0,none⟩)),(0,.slice a l.length c)] e' ∧
   Lc w v' m L0.p i (i+1) L g' root' lv' its' ps' f' rv tv hst) ?_ ?_
  rotate_left
  ·repeat (first|refine aK rfl yM rfl ?_|refine aF rfl rfl ?_|refine aJ ?_|refine aC ?_|refine cQ ?_)
   refine aL 18 ?_
   refine aI rfl (pick_c x.1 8 (by omega) (by omega) _) rfl ?_
   rintro _ v2' ⟨⟨r,rfl,hr8⟩,rfl⟩
   by_cases hr4:r=4
   ·subst hr4
    repeat (first|(refine aB ?_;refine TL.pure rfl rfl ?_)|(refine aD ?_;refine TL.pure rfl rfl ?_)|refine aK rfl yM rfl ?_|refine aF rfl rfl ?_|refine TL.nil ?_|refine aA ?_|refine aJ ?_|refine aC ?_|refine T.block ?_|(refine aH ?_;refine aZ rfl yD rfl ?_)|refine aM rfl ?_|refine aW ?_)
    refine aL 20 ?_
    refine aI rfl (own_c _ ka x.2.1.length kc x.2.1 _ (hks.grow hC2.gr) (by omega)) rfl ?_
    rintro vk v7 ⟨hown7,hg7⟩
    obtain ⟨a7,c7,rfl,hs7⟩:=bX hown7
    have hC7:=hC2.grow hg7
    have hlts:=hC2.pg.at_.lts
    repeat (refine aJ ?_)
    refine aL 19 ?_
    refine aI rfl (del_any hC7.pg hC7.tr (by omega) hsp a7 x.2.1.length c7 x.2.1 (hs7.mono λ k hk=>λ hS=>by have:=hk.1;unfold PL.S at hS;omega)) rfl ?_
    rintro _ v8 ⟨xv,e,root',g',lv',its',ps',rfl,hor,haft⟩
    have hhd8:=hC7.hd.buts haft.but
    have hg8:=hC7.gr2 haft.but
    have hil:=hC2.il
    rcases hor with ⟨hin,rfl,rfl,rfl⟩|⟨hout,he,hbad,rfl,rfl,rfl,rfl⟩
    ·have hko:dB x.2.1=true:=by
      obtain ⟨y,hy,e⟩:=hin
      rw [← e]
      exact (hC2.tr.items y hy).1
     obtain rfl:th=true:=hth.2 hin
     rw [hko]
     obtain ⟨⟨ky,vy⟩,hy,hye⟩:=id hin
     simp only at hye
     subst hye
     obtain ⟨u,hfu,_⟩:=hhd8.has.yes hC7.tr.srt hy
     repeat (first|(refine dW 4 ?_;refine eJ (c:=false) rfl rfl rfl rfl ?_)|(refine TL.isDelete ?_;refine TL.delG (κ:=keyS) (ok:=okS) rfl rfl hhd8.mp hfu hokS ?_;intro v9 hu9 hmp9)|(refine eA ?_;first|refine bH rfl rfl rfl ?_|refine aU rfl rfl rfl ?_)|(refine aB ?_;refine TL.pure rfl rfl ?_)|(refine aD ?_;refine TL.pure rfl rfl ?_)|refine TL.nil ?_|refine aA ?_|refine aJ ?_|refine aC ?_|refine aS ?_|(refine aH ?_;refine aZ rfl yD rfl ?_)|refine aM rfl ?_|refine aE rfl ?_|refine aW ?_|refine TL.pure rfl rfl ?_|refine bB ?_|refine bY ?_)
     have hhd9:=hhd8.upd hu9 hmp9 (hhd8.has.del x.2.1)
     have hmn:=hhd8.mn
     have hp9:PgW v9 L g':=haft.pg.upd' hu9 (λ h=>hmn.1 h) ⟨hmn.2.2,by omega⟩
     exact ⟨g',root',lv',_,ps',_,⟨rfl,rfl,rfl,rfl,rfl,rfl,rfl,trivial⟩,hC7.next hp9 haft.ext haft.tr hhd9 (by have:=delI_le x.2.1 its;omega) (aX hu9 hmn.2.1 hg8)⟩
    ·obtain rfl:th=false:=by
      cases th with
      | false=>rfl
      | true=>exact absurd (hth.1 rfl) hout
     cases hko:dB x.2.1 with
     | false =>
      obtain rfl:=hbad hko
      repeat (first|(refine dW 4 ?_;refine eJ (c:=false) rfl rfl rfl rfl ?_)|refine aU rfl rfl rfl ?_|(refine aB ?_;refine TL.pure rfl rfl ?_)|(refine aD ?_;refine TL.pure rfl rfl ?_)|refine TL.nil ?_|refine aA ?_|refine aJ ?_|refine aC ?_|refine aS ?_|(refine aH ?_;refine aQ rfl yD rfl ?_)|refine aE rfl ?_|refine aW ?_|refine TL.pure rfl rfl ?_|refine bB ?_|refine bY ?_)
      exact ⟨_,_,_,_,ps',_,⟨rfl,rfl,rfl,rfl,rfl,rfl,rfl,trivial⟩,hC7.next haft.pg haft.ext haft.tr hhd8 (by omega) hg8⟩
     | true =>
      rcases he with rfl|rfl
      ·repeat (first|(refine dW 4 ?_;refine eJ (c:=false) rfl rfl rfl rfl ?_)|(refine eA ?_;first|refine bH rfl rfl rfl ?_|refine aU rfl rfl rfl ?_)|(refine aB ?_;refine TL.pure rfl rfl ?_)|(refine aD ?_;refine TL.pure rfl rfl ?_)|refine TL.nil ?_|refine aA ?_|refine aJ ?_|refine aC ?_|refine aS ?_|(refine aH ?_;refine aQ rfl yD rfl ?_)|refine aE rfl ?_|refine aW ?_|refine TL.pure rfl rfl ?_|refine bB ?_|refine bY ?_)
       exact ⟨_,_,_,_,ps',_,⟨rfl,rfl,rfl,rfl,rfl,rfl,rfl,trivial⟩,hC7.next haft.pg haft.ext haft.tr hhd8 (by omega) hg8⟩
      ·repeat (first|(refine dW 4 ?_;refine eJ (c:=false) rfl rfl rfl rfl ?_)|(refine eA ?_;first|refine bH rfl rfl rfl ?_|refine aU rfl rfl rfl ?_)|(refine aB ?_;refine TL.pure rfl rfl ?_)|(refine aD ?_;refine TL.pure rfl rfl ?_)|refine TL.nil ?_|refine aA ?_|refine aJ ?_|refine aC ?_|refine aS ?_|(refine aH ?_;refine aQ rfl yD rfl ?_)|refine aE rfl ?_|refine aW ?_|refine TL.pure rfl rfl ?_|refine bB ?_|refine bY ?_)
       exact ⟨_,_,_,_,ps',_,⟨rfl,rfl,rfl,rfl,rfl,rfl,rfl,trivial⟩,hC7.next haft.pg haft.ext haft.tr hhd8 (by omega) hg8⟩
   by_cases hr5:r=5
   ·subst hr5
    repeat (first|(refine aB ?_;refine TL.pure rfl rfl ?_)|(refine aD ?_;refine TL.pure rfl rfl ?_)|refine aK rfl yM rfl ?_|refine aF rfl rfl ?_|refine TL.nil ?_|refine aA ?_|refine aJ ?_|refine aC ?_|refine T.block ?_|(refine aH ?_;first|refine aZ rfl yD rfl ?_|refine aQ rfl yD rfl ?_)|refine aM rfl ?_|refine aE rfl ?_)
    refine aL 20 ?_
    refine aI rfl (own_c _ ka x.2.1.length kc x.2.1 _ (hks.grow hC2.gr) (by omega)) rfl ?_
    rintro vk v7 ⟨hown7,hg7⟩
    obtain ⟨a7,c7,rfl,hs7⟩:=bX hown7
    have hC7:=hC2.grow hg7
    have hlts:=hC2.pg.at_.lts
    repeat (refine aJ ?_)
    refine aL 19 ?_
    refine aI rfl (del_any hC7.pg hC7.tr (by omega) hsp a7 x.2.1.length c7 x.2.1 (hs7.mono λ k hk=>λ hS=>by have:=hk.1;unfold PL.S at hS;omega)) rfl ?_
    rintro _ v8 ⟨xv,e,root',g',lv',its',ps',rfl,hor,haft⟩
    have hhd8:=hC7.hd.buts haft.but
    have hg8:=hC7.gr2 haft.but
    have hil:=hC2.il
    rcases hor with ⟨hin,rfl,rfl,rfl⟩|⟨hout,he,hbad,rfl,rfl,rfl,rfl⟩
    ·have hko:dB x.2.1=true:=by
      obtain ⟨y,hy,e⟩:=hin
      rw [← e]
      exact (hC2.tr.items y hy).1
     obtain rfl:th=true:=hth.2 hin
     rw [hko]
     obtain ⟨⟨ky,vy⟩,hy,hye⟩:=id hin
     simp only at hye
     subst hye
     obtain ⟨u,hfu,_⟩:=hhd8.has.yes hC7.tr.srt hy
     repeat (first|(refine dW 4 ?_;refine eJ (c:=false) rfl rfl rfl rfl ?_)|(refine TL.isDelete ?_;refine TL.delG (κ:=keyS) (ok:=okS) rfl rfl hhd8.mp hfu hokS ?_;intro v9 hu9 hmp9)|(refine eA ?_;first|refine bH rfl rfl rfl ?_|refine aU rfl rfl rfl ?_)|(refine aB ?_;refine TL.pure rfl rfl ?_)|(refine aD ?_;refine TL.pure rfl rfl ?_)|refine TL.nil ?_|refine aA ?_|refine aJ ?_|refine aC ?_|refine aS ?_|(refine aH ?_;refine aZ rfl yD rfl ?_)|refine aM rfl ?_|refine aE rfl ?_|refine aW ?_|refine TL.pure rfl rfl ?_|refine bB ?_|refine bY ?_)
     have hhd9:=hhd8.upd hu9 hmp9 (hhd8.has.del x.2.1)
     have hmn:=hhd8.mn
     have hp9:PgW v9 L g':=haft.pg.upd' hu9 (λ h=>hmn.1 h) ⟨hmn.2.2,by omega⟩
     exact ⟨g',root',lv',_,ps',_,⟨rfl,rfl,rfl,rfl,rfl,rfl,rfl,trivial⟩,hC7.next hp9 haft.ext haft.tr hhd9 (by have:=delI_le x.2.1 its;omega) (aX hu9 hmn.2.1 hg8)⟩
    ·obtain rfl:th=false:=by
      cases th with
      | false=>rfl
      | true=>exact absurd (hth.1 rfl) hout
     cases hko:dB x.2.1 with
     | false =>
      obtain rfl:=hbad hko
      repeat (first|(refine dW 4 ?_;refine eJ (c:=false) rfl rfl rfl rfl ?_)|refine aU rfl rfl rfl ?_|(refine aB ?_;refine TL.pure rfl rfl ?_)|(refine aD ?_;refine TL.pure rfl rfl ?_)|refine TL.nil ?_|refine aA ?_|refine aJ ?_|refine aC ?_|refine aS ?_|(refine aH ?_;refine aQ rfl yD rfl ?_)|refine aE rfl ?_|refine aW ?_|refine TL.pure rfl rfl ?_|refine bB ?_|refine bY ?_)
      exact ⟨_,_,_,_,ps',_,⟨rfl,rfl,rfl,rfl,rfl,rfl,rfl,trivial⟩,hC7.next haft.pg haft.ext haft.tr hhd8 (by omega) hg8⟩
     | true =>
      rcases he with rfl|rfl
      ·repeat (first|(refine dW 4 ?_;refine eJ (c:=false) rfl rfl rfl rfl ?_)|(refine eA ?_;first|refine bH rfl rfl rfl ?_|refine aU rfl rfl rfl ?_)|(refine aB ?_;refine TL.pure rfl rfl ?_)|(refine aD ?_;refine TL.pure rfl rfl ?_)|refine TL.nil ?_|refine aA ?_|refine aJ ?_|refine aC ?_|refine aS ?_|(refine aH ?_;refine aQ rfl yD rfl ?_)|refine aE rfl ?_|refine aW ?_|refine TL.pure rfl rfl ?_|refine bB ?_|refine bY ?_)
       exact ⟨_,_,_,_,ps',_,⟨rfl,rfl,rfl,rfl,rfl,rfl,rfl,trivial⟩,hC7.next haft.pg haft.ext haft.tr hhd8 (by omega) hg8⟩
      ·repeat (first|(refine dW 4 ?_;refine eJ (c:=false) rfl rfl rfl rfl ?_)|(refine eA ?_;first|refine bH rfl rfl rfl ?_|refine aU rfl rfl rfl ?_)|(refine aB ?_;refine TL.pure rfl rfl ?_)|(refine aD ?_;refine TL.pure rfl rfl ?_)|refine TL.nil ?_|refine aA ?_|refine aJ ?_|refine aC ?_|refine aS ?_|(refine aH ?_;refine aQ rfl yD rfl ?_)|refine aE rfl ?_|refine aW ?_|refine TL.pure rfl rfl ?_|refine bB ?_|refine bY ?_)
       exact ⟨_,_,_,_,ps',_,⟨rfl,rfl,rfl,rfl,rfl,rfl,rfl,trivial⟩,hC7.next haft.pg haft.ext haft.tr hhd8 (by omega) hg8⟩
   have e4:(((r:Nat):Int)==4)=false:=by rw [beq_eq_false_iff_ne];omega
   have e5:(((r:Nat):Int)==5)=false:=by rw [beq_eq_false_iff_ne];omega
   by_cases hr6:r=6
   ·subst hr6
    repeat (first|(refine aB ?_;refine TL.pure rfl rfl ?_)|(refine aD ?_;refine TL.pure rfl rfl ?_)|refine aK rfl yM rfl ?_|refine aF rfl rfl ?_|refine TL.nil ?_|refine aA ?_|refine aJ ?_|refine aC ?_|refine T.block ?_|(refine aH ?_;first|refine aZ rfl yD rfl ?_|refine aQ rfl yD rfl ?_)|refine aM rfl ?_|refine aE rfl ?_)
    refine aL 24 ?_
    refine aI rfl (get_any hC2.pg hC2.tr (by omega) ka x.2.1.length kc x.2.1 (hks.grow hC2.gr)) rfl ?_
    rintro _ v3 ⟨⟨q,e,rfl,hor⟩,hg3⟩
    have hC3:=hC2.grow hg3
    have hil:=hC3.il
    rcases hor with ⟨val,hin,rfl,hq⟩|⟨hout,rfl,he⟩
    ·obtain rfl:th=true:=hth.2 ⟨_,hin,rfl⟩
     obtain ⟨u,hfu,hu⟩:=hC3.hd.has.yes hC3.tr.srt hin
     obtain ⟨ua,uc,rfl,hus⟩:=hu.sl
     obtain ⟨qa,qc,rfl,hqs⟩:=hq.sl
     repeat (first|(refine dW 4 ?_;refine eJ (c:=false) rfl rfl rfl rfl ?_)|refine gA rfl hqs rfl ?_|refine gA rfl hus rfl ?_|(refine gR ?_;refine TL.look1G (κ:=keyS) (ok:=okS) rfl rfl hC3.hd.mp hfu hokS rfl ?_)|(refine dW 9 ?_;refine TL.neS (s:=iH val) (t:=iH val) (b:=false) rfl rfl (by simp) rfl ?_)|refine aU rfl rfl rfl ?_|(refine aB ?_;refine TL.pure rfl rfl ?_)|(refine aD ?_;refine TL.pure rfl rfl ?_)|refine TL.nil ?_|refine aA ?_|refine aJ ?_|refine aC ?_|refine aS ?_|(refine aH ?_;refine aZ rfl yD rfl ?_)|refine aE rfl ?_|refine aW ?_|refine TL.pure rfl rfl ?_|refine bB ?_|refine bY ?_)
     exact ⟨_,_,_,_,ps,_,⟨rfl,rfl,rfl,rfl,rfl,rfl,rfl,trivial⟩,hC3.next hC3.pg (Ext.refl _) hC3.tr hC3.hd (by omega) hC3.gr⟩
    ·obtain rfl:th=false:=by
      cases th with
      | false=>rfl
      | true=>exact absurd (hth.1 rfl) hout
     rcases he with rfl|rfl
     ·repeat (first|(refine dW 4 ?_;refine eJ (c:=false) rfl rfl rfl rfl ?_)|(refine eA ?_;first|refine bH rfl rfl rfl ?_|refine aU rfl rfl rfl ?_)|(refine aB ?_;refine TL.pure rfl rfl ?_)|(refine aD ?_;refine TL.pure rfl rfl ?_)|refine TL.nil ?_|refine aA ?_|refine aJ ?_|refine aC ?_|refine aS ?_|(refine aH ?_;refine aQ rfl yD rfl ?_)|refine aE rfl ?_|refine aW ?_|refine TL.pure rfl rfl ?_|refine bB ?_|refine bY ?_)
      exact ⟨_,_,_,_,ps,_,⟨rfl,rfl,rfl,rfl,rfl,rfl,rfl,trivial⟩,hC3.next hC3.pg (Ext.refl _) hC3.tr hC3.hd (by omega) hC3.gr⟩
     ·repeat (first|(refine dW 4 ?_;refine eJ (c:=false) rfl rfl rfl rfl ?_)|(refine eA ?_;first|refine bH rfl rfl rfl ?_|refine aU rfl rfl rfl ?_)|(refine aB ?_;refine TL.pure rfl rfl ?_)|(refine aD ?_;refine TL.pure rfl rfl ?_)|refine TL.nil ?_|refine aA ?_|refine aJ ?_|refine aC ?_|refine aS ?_|(refine aH ?_;refine aQ rfl yD rfl ?_)|refine aE rfl ?_|refine aW ?_|refine TL.pure rfl rfl ?_|refine bB ?_|refine bY ?_)
      exact ⟨_,_,_,_,ps,_,⟨rfl,rfl,rfl,rfl,rfl,rfl,rfl,trivial⟩,hC3.next hC3.pg (Ext.refl _) hC3.tr hC3.hd (by omega) hC3.gr⟩
   have e6:(((r:Nat):Int)==6)=false:=by rw [beq_eq_false_iff_ne];omega
   repeat (first|(refine aD ?_;refine TL.pure rfl rfl ?_)|refine TL.nil ?_|refine aA ?_|refine aJ ?_|refine aC ?_|refine T.block ?_|(refine aH ?_;refine aQ rfl yD rfl ?_)|refine aE rfl ?_)
   obtain ⟨v6,rfl⟩:∃ z,z=v2':=⟨v2',rfl⟩
   obtain ⟨xv,e,root',g',lv',its',ps',hor,hex,htr',hs1,hs2,hput⟩:=put_det hC2.pg.at_.ok hC2.tr (by omega) hsp x.2.1 x.2.2 hb1 hb2
   have hks6:=hks.grow hC2.gr
   have hvs6:=hvs.grow hC2.gr
   have hlts:=hC2.pg.at_.lts
   have hn6:∀ k,v6.heap.size≤k→¬ L.S k:=λ k hk=>by unfold PL.S;omega
   have hS0:∀ k,F0 k→¬ L.S k:=λ k hk hS=>by
    have h1:=hf0 k hk
    unfold PL.S at hS
    have h2:=hC2.new k (by rcases hS with h|h|h<;>simp [h])
    omega
   apply T.anyA (ButS L.S) 14 8 (λ wq=>PgW wq L g∧Grow v6 wq) (λ wq=>PgW wq L g'∧ButS L.S v6 wq) (λ wq=>ButS L.S v6 wq)
    [isA (.pointer (some ⟨L.p,0,none⟩)),isA (.int .i64 (dF root)),isA (.pointer (some ⟨b10,1,none⟩)),isA (.slice ka x.2.1.length kc),ownS v6.heap.size 5 1 x.2.1.length (cX x.2.1) hn6,isA (.pointer (some ⟨b10,2,none⟩)),isA (.slice va x.2.2.length vc),ownS v6.heap.size 5 1 x.2.2.length (cX x.2.2) hn6,
     isA (.tuple #[.int .i64 xv,.int .i64 e]),isA (.tuple #[.int .i64 xv,.int .i64 e]),isA (.int .i64 xv),isA (.int .i64 e),isA (.int .i64 xv),isA (.int .i64 e)]
   ·kernel_rfl
   ·exact ⟨hC2.pg,Grow.refl _⟩
   ·exact λ _ h=>ButS.grow h.2
   ·exact λ _ h=>h.2
   ·exact λ _ h=>h.size
   ·exact λ _ _ h g=>⟨h.1.grow g,h.2.trans g⟩
   ·exact λ _ _ h g=>⟨h.1.grow g,h.2.trans (ButS.grow g)⟩
   ·exact λ _ _ h=>h.size
   ·repeat' (first|exact allA_end|refine allA_cons ?_ ?_)
    iterate 3
     ·refine fM rfl rfl rfl rfl ?_
      intro wq _ _ hiw
      (repeat (refine cY rfl rfl ?_;intro vq hvq;try (obtain rfl:=Eq.symm hvq)));(refine dJ ?_)
      repeat (first|(refine aB ?_;refine TL.pure rfl rfl ?_)|refine aF rfl rfl ?_|refine TL.nil ?_)
      exact eE rfl (Grow.refl _) rfl
    ·refine fM rfl rfl rfl rfl ?_
     intro wq _ _ hiw
     (repeat (refine cY rfl rfl ?_;intro vq hvq;try (obtain rfl:=Eq.symm hvq)));(refine dJ ?_)
     have hbq1:=dG hbk2 hiw hbS
     repeat (first|refine aK rfl yM rfl ?_|refine TL.nil ?_)
     exact eE rfl (Grow.refl _) rfl
    ·refine fM rfl rfl rfl rfl ?_
     intro wq _ _ hiw
     (repeat (refine cY rfl rfl ?_;intro vq hvq;try (obtain rfl:=Eq.symm hvq)));(refine dJ ?_)
     refine aL 20 ?_
     refine aI rfl (own_c _ ka x.2.1.length kc x.2.1 _ (hks6.go (Carry.buts hiw λ k hk _=>hS0 k hk)) (by omega)) rfl ?_
     rintro vk v7 ⟨hown7,hg7⟩
     repeat (refine TL.nil ?_)
     exact eE rfl hg7 (fI hown7 hiw.size)
    ·refine fM rfl rfl rfl rfl ?_
     intro wq _ _ hiw
     (repeat (refine cY rfl rfl ?_;intro vq hvq;try (obtain rfl:=Eq.symm hvq)));(refine dJ ?_)
     repeat (first|refine aF rfl rfl ?_|refine TL.nil ?_)
     exact eE rfl (Grow.refl _) rfl
    ·refine fM rfl rfl rfl rfl ?_
     intro wq _ _ hiw
     (repeat (refine cY rfl rfl ?_;intro vq hvq;try (obtain rfl:=Eq.symm hvq)));(refine dJ ?_)
     have hbq1:=dG hbk2 hiw hbS
     repeat (first|refine aK rfl yM rfl ?_|refine TL.nil ?_)
     exact eE rfl (Grow.refl _) rfl
    ·refine fM rfl rfl rfl rfl ?_
     intro wq _ _ hiw
     (repeat (refine cY rfl rfl ?_;intro vq hvq;try (obtain rfl:=Eq.symm hvq)));(refine dJ ?_)
     refine aL 20 ?_
     refine aI rfl (own_c _ va x.2.2.length vc x.2.2 _ (hvs6.go (Carry.buts hiw λ k hk _=>hS0 k hk)) (by omega)) rfl ?_
     rintro vk v7 ⟨hown7,hg7⟩
     repeat (refine TL.nil ?_)
     exact eE rfl hg7 (fI hown7 hiw.size)
    ·refine doesA_it rfl rfl rfl rfl ?_
     intro wq _ _ hiw
     refine cY rfl rfl ?_;intro vq1 hvq1
     refine cY rfl rfl ?_;intro vq2 hvq2
     refine cY rfl rfl ?_;intro vq3 hvq3
     refine cY rfl rfl ?_;intro vq4 hvq4
     refine dJ ?_
     obtain rfl:=Eq.symm hvq1
     obtain rfl:=Eq.symm hvq2
     have ho3:wq.ownsRow v6.heap.size 5 1 vq3 x.2.1.length (cX x.2.1):=hvq3
     have ho4:wq.ownsRow v6.heap.size 5 1 vq4 x.2.2.length (cX x.2.2):=hvq4
     obtain ⟨a3,c3,rfl,hs3⟩:=bX ho3
     obtain ⟨a4,c4,rfl,hs4⟩:=bX ho4
     refine aL 25 ?_
     refine aI rfl (hput hiw.1 a3 a4 x.2.1.length c3 x.2.2.length c4 (hs3.mono λ k hk=>hn6 k hk.1) (hs4.mono λ k hk=>hn6 k hk.1)) rfl ?_
     rintro _ v8 ⟨rfl,hp8,hb8⟩
     repeat (refine TL.nil ?_)
     exact eE rfl ⟨hb8,hp8,(ButS.grow hiw.2).trans hb8⟩ rfl
    iterate 5
     ·refine fM rfl rfl rfl rfl ?_
      intro wq _ _ hiw
      (repeat (refine cY rfl rfl ?_;intro vq hvq;try (obtain rfl:=Eq.symm hvq)));(refine dJ ?_)
      repeat (first|(refine aB ?_;refine TL.pure rfl rfl ?_)|(refine aD ?_;refine TL.pure rfl rfl ?_)|refine TL.nil ?_|refine TL.pure rfl rfl ?_)
      exact eE rfl (Grow.refl _) rfl
   ·rintro v8 lo hi ⟨hp8,hbs8⟩ _ _
    (repeat (refine cY rfl rfl ?_;intro vq hvq;try (obtain rfl:=Eq.symm hvq)));(refine dJ ?_)
    have hhd8:=hC2.hd.buts hbs8
    have hg8:=hC2.gr2 hbs8
    have hil:=hC2.il
    have hbk8:=dG hbk2 hbs8 hbS
    rcases hor with ⟨hok,rfl,rfl,rfl⟩|⟨hbad,rfl,rfl,rfl,rfl,rfl⟩
    ·obtain ⟨hko,hvo⟩:=Bool.and_eq_true_iff.1 hok
     have hvl:=jA hvo
     rw [hko]
     repeat (first|(refine dW 4 ?_;refine eJ (c:=false) rfl rfl rfl rfl ?_)|refine aU rfl rfl rfl ?_|(refine aB ?_;refine TL.pure rfl rfl ?_)|(refine aD ?_;refine TL.pure rfl rfl ?_)|refine aK rfl yM rfl ?_|refine aF rfl rfl ?_|refine TL.nil ?_|refine aA ?_|refine aJ ?_|refine aC ?_|(refine aH ?_;refine aZ rfl yD rfl ?_)|refine aO rfl rfl ?_|refine aM rfl ?_|refine aE rfl ?_|refine aW ?_|refine TL.pure rfl rfl ?_)
     refine aL 20 ?_
     refine aI rfl (own_c _ va x.2.2.length vc x.2.2 _ (hvs6.go (Carry.buts hbs8 λ k hk _=>hS0 k hk)) (by omega)) rfl ?_
     rintro vk v9 ⟨hown9,hg9⟩
     obtain ⟨a9,c9,rfl,hs9⟩:=bX hown9
     have hhd9:=hhd8.grow hg9
     have hz8:=hbs8.size
     have hml:=hhd8.mp.lt
     have hu9:BsAt (Fv L m rv tv) v9 (.slice a9 x.2.2.length c9) x.2.2:=⟨a9,_,c9,rfl,hs9.mono λ k hk=>⟨hn6 k (by have:=hk.1;omega),(λ e=>by have:=hk.1;omega),(λ e=>by have:=(cJ hhd8.r e).2;have:=hk.1;omega),(λ e=>by have:=(cJ hhd8.t e).2;have:=hk.1;omega)⟩⟩
     have hmn:=hhd8.mn
     repeat (first|(refine TL.isMapUp ?_;refine TL.updateG (κ:=keyS) (ok:=okS) rfl rfl rfl hhd9.mp hokS ?_;intro v10 hu10 hmp10)|refine TL.nil ?_|refine aS ?_|refine bB ?_|refine bY ?_)
     have hhd10:=hhd9.upd hu10 hmp10 (hhd9.has.put hC2.tr.srt hu9)
     exact ⟨g',root',lv',_,ps',_,⟨rfl,rfl,rfl,rfl,rfl,rfl,rfl,trivial⟩,hC2.next ((hp8.grow hg9).upd' hu10 (λ h=>hmn.1 h) ⟨hmn.2.2,by omega⟩) hex htr' hhd10 (by have:=(insI_len x.2.1 x.2.2 its).2;omega) (aX hu10 hmn.2.1 (hg8.trans hg9))⟩
    ·cases hko:dB x.2.1 with
     | false =>
      repeat (first|(refine dW 4 ?_;refine eJ (c:=false) rfl rfl rfl rfl ?_)|refine bH rfl rfl rfl ?_|(refine aB ?_;refine TL.pure rfl rfl ?_)|refine TL.nil ?_|refine aA ?_|refine aJ ?_|refine aC ?_|refine aS ?_|(refine aH ?_;refine aQ rfl yD rfl ?_)|refine aE rfl ?_|refine aW ?_|refine TL.pure rfl rfl ?_|refine bB ?_|refine bY ?_)
      exact ⟨_,_,_,_,ps',_,⟨rfl,rfl,rfl,rfl,rfl,rfl,rfl,trivial⟩,hC2.next hp8 hex htr' hhd8 (by omega) hg8⟩
     | true =>
      have hvo:fR x.2.2=false:=by rw [hko] at hbad;simpa using hbad
      have hvl:¬ x.2.2.length≤32:=λ h=>by simp [fR,h] at hvo
      repeat (first|(refine dW 4 ?_;refine eJ (c:=false) rfl rfl rfl rfl ?_)|refine aU rfl rfl rfl ?_|(refine aB ?_;refine TL.pure rfl rfl ?_)|refine aK rfl yM rfl ?_|refine aF rfl rfl ?_|refine TL.nil ?_|refine aA ?_|refine aJ ?_|refine aC ?_|refine aS ?_|(refine aH ?_;refine aQ rfl yD rfl ?_)|refine aO rfl rfl ?_|refine aE rfl ?_|refine aW ?_|refine TL.pure rfl rfl ?_|refine bB ?_|refine bY ?_)
      exact ⟨_,_,_,_,ps',_,⟨rfl,rfl,rfl,rfl,rfl,rfl,rfl,trivial⟩,hC2.next hp8 hex htr' hhd8 (by omega) hg8⟩
  rintro e1 v3 ⟨g',root',lv',its',ps',f',hsub,hC3⟩
  refine dD (e':=[(9,.int .i64 (i:Int)),(8,tv),(7,rv),(6,.int .i64 (dF root')),(5,.map (some m)),(3,.pointer (some ⟨L.p,0,none⟩)),(0,.slice a l.length c)]) ?_ hsub
  clear hsub e1 hC2 hsp hbk2 hbS hbm hbl hth
  have hil:=hC3.il
  have hlv3:lv'≤3:=hC3.tr.levels (k:=3) (by omega) (by omega)
  obtain ⟨M,hM,hdM,hpM⟩:=tree_tr hC3.tr (by omega)
  have hr4:∀ n,root'=some n→n<4294967296:=λ n hn=>by
   have h1:=fH (hC3.tr.root_used n hn)
   have h2:=hC3.cnt
   omega
  repeat (first|(refine aB ?_;refine TL.pure rfl rfl ?_)|refine aJ ?_|refine aC ?_)
  refine aL 17 ?_
  refine aI rfl (told_c hC3.pg.at_ hC3.tr (by omega) (by omega)) rfl ?_
  rintro _ v4 ⟨rfl,hg4⟩
  have hC4:=hC3.grow hg4
  repeat (first|(refine aB ?_;refine TL.pure rfl rfl ?_)|(refine aD ?_;refine TL.pure rfl rfl ?_)|refine TL.nil ?_|refine aA ?_|refine aJ ?_|refine aC ?_|refine TL.pure rfl rfl ?_)
  refine aL 26 ?_
  refine aI rfl (tcheck_c hC4.pg.at_ hr4 hM) rfl ?_
  rintro _ v5 ⟨rfl,hg5⟩
  have hC5:=hC4.grow hg5
  have hsz:=hC5.hd.mp.size (λ a b ha hb e=>str_is.inj a b ha hb e) (srt_nodup hC5.tr.srt) hC5.hd.has.keys
  rw [List.length_map] at hsz
  have hne:(((its'.length:Nat):Int) != ((its'.length:Nat):Int))=false:=by simp
  clear hC3 hC4 hg4 hg5
  repeat (first|(refine jG ?_;refine TL.lenMap (N:=its'.length) rfl hsz rfl ?_)|refine aU rfl rfl rfl ?_|(refine aB ?_;refine TL.pure rfl rfl ?_)|refine TL.nil ?_|refine aA ?_|refine aJ ?_|refine aC ?_|(refine aH ?_;refine aQ rfl yD rfl ?_)|refine aE rfl ?_|refine aW ?_|refine TL.pure rfl rfl ?_)
  refine aL 27 ?_
  refine aI rfl (all_c hC5.pg.at_ hr4 hM its' (by omega) hdM (λ e=>by have:=hC5.tr;rw [e] at this;exact this.2.1)) rfl ?_
  rintro _ v6 ⟨⟨aa,ca,rfl,hall⟩,hg6⟩
  have hC6:=hC5.grow hg6
  clear hC5 hsz
  obtain ⟨cs2,hcs2,hcc⟩:=hall.ex
  repeat (first|(refine aB ?_;refine TL.pure rfl rfl ?_)|(refine aD ?_;refine TL.pure rfl rfl ?_)|refine TL.nil ?_|refine aA ?_|refine aJ ?_|refine aC ?_|refine T.block ?_|refine TL.pure rfl rfl ?_)
  refine cU (S:=Nat) (λ k=>[(31,.int .i64 (k:Int)),(29,.slice aa its'.length ca),(27,.string (iH (iL its'))),(9,.int .i64 (i:Int)),(8,tv),(7,rv),(6,.int .i64 (dF root')),(5,.map (some m)),(3,.pointer (some ⟨L.p,0,none⟩)),(0,.slice a l.length c)]) (λ k v7=>k≤its'.length∧Grow v6 v7) (λ k=>its'.length-k) 0 ⟨rfl,rfl,rfl,rfl,rfl,rfl,rfl,rfl,rfl,rfl,trivial⟩ ⟨Nat.zero_le _,Grow.refl _⟩ ?_
  rintro k v7 ⟨hk,hg67⟩
  have hC7:=hC6.grow hg67
  by_cases hkl:k<its'.length
  ·obtain ⟨y,hy⟩:∃ q,its'[k]? = some q:=⟨_,List.getElem?_eq_getElem hkl⟩
   obtain ⟨kv,vv,q0,q1,hkk,hvv⟩:=(hcc.go (Carry.grow hg67)).at' hy
   rw [Nat.mul_comm] at q0 q1
   obtain ⟨ka2,kc2,rfl,sK0⟩:=hkk.sl
   obtain ⟨va2,vc2,rfl,sV0⟩:=hvv.sl
   obtain ⟨u,hfu,hu⟩:=hC7.hd.has.yes hC7.tr.srt (k:=y.1) (v:=y.2) (List.mem_of_getElem? hy)
   obtain ⟨ua,uc,rfl,sU0⟩:=hu.sl
   have hoky:okS y.1:=by
    obtain ⟨es,cl,_,_,h3,_⟩:=hC7.hd.mp
    exact (h3 _ _ hfu).1
   have hcs7:=hcs2.grow hg67
   have hcq:∀ wq,Grow v7 wq→Sl _ wq 2 aa its'.length ca cs2:=λ wq iq=>hcs7.grow iq
   have c0:∀ wq,Grow v7 wq→wq.cell? (at' aa (k*2))=some (.slice ka2 y.1.length kc2):=λ wq iq=>(hcq wq iq).row.cell q0
   have c1:∀ wq,Grow v7 wq→wq.cell? (at' aa (k*2+1))=some (.slice va2 y.2.length vc2):=λ wq iq=>(hcq wq iq).row.cell q1
   have sU:=λ wq (iq:Grow v7 wq)=>sU0.grow iq
   have sV:=λ wq (iq:Grow v7 wq)=>sV0.grow iq
   have sK:=λ wq (iq:Grow v7 wq)=>sK0.grow iq
   have c00:=c0 v7 (Grow.refl _)
   repeat (first|(refine bC ?_;refine aV (j:=k) rfl rfl rfl hkl rfl ⟨_,_,hcs7⟩ rfl ?_)|(refine dU ?_;refine dV (o:=k*2) rfl hcs7 q0 rfl ?_)|refine gA rfl sK0 rfl ?_|(refine gR ?_;refine TL.lookYesG (κ:=keyS) (ok:=okS) rfl rfl hC7.hd.mp hfu hoky rfl ?_)|(refine aB ?_;refine TL.pure rfl rfl ?_)|(refine aD ?_;refine TL.pure rfl rfl ?_)|refine aK rfl yM rfl ?_|refine TL.nil ?_|refine aA ?_|refine aJ ?_|refine aC ?_|refine T.block ?_|(refine aH ?_;refine aZ rfl yD rfl ?_)|refine aO rfl rfl ?_|refine aM rfl ?_|refine aW ?_|refine TL.pure rfl rfl ?_)
   refine dD (e':=[(33,.bool true),(32,.slice ua y.2.length uc),(31,.int .i64 (k:Int)),(29,.slice aa its'.length ca),(27,.string (iH (iL its'))),(9,.int .i64 (i:Int)),(8,tv),(7,rv),(6,.int .i64 (dF root')),(5,.map (some m)),(3,.pointer (some ⟨L.p,0,none⟩)),(0,.slice a l.length c)]) ?_ ⟨rfl,rfl,rfl,rfl,rfl,rfl,rfl,rfl,rfl,rfl,rfl,rfl,trivial⟩
   by_cases hk0:k=0
   ·have hk0':¬ 0<k:=by omega
    apply T.det 33 [.bool true,.bool false,.bool false,.slice ua y.2.length uc,.string (iH y.2),.slice aa its'.length ca,.int .i64 (k:Int),.pointer (some (at' aa (k*2))),.pointer (some (at' aa (k*2+1))),.slice va2 y.2.length vc2,.string (iH y.2),.bool false,.bool false,.bool false,.int .i64 (k:Int),.bool false,.bool false,undef,undef,undef,undef,undef,undef,undef,undef,undef,undef,undef,undef,undef,undef,.bool false,.bool false] (λ wq=>Grow v7 wq)
    ·rfl
    ·exact λ _ h=>h
    ·repeat' (first|exact gX|refine fX ?_ ?_)
     iterate 33
      ·first|refine jT rfl rfl rfl ?_|refine det_mkG rfl rfl rfl ?_
       intro wq iq
       have h1:=hcq wq iq
       have h2:=c0 wq iq
       have h3:=c1 wq iq
       have sU1:=sU wq iq
       have sV1:=sV wq iq
       have sK1:=sK wq iq
       repeat (first|(refine dW 9 ?_;refine TL.neS (s:=iH y.2) (t:=iH y.2) (b:=false) rfl rfl (by simp) rfl ?_)|(refine bC ?_;refine aV (j:=k) rfl rfl rfl hkl rfl ⟨_,_,h1⟩ rfl ?_)|(refine dU ?_;refine dV (o:=k*2) rfl h1 q0 rfl ?_)|refine gA rfl sU1 rfl ?_|refine gA rfl sV1 rfl ?_|(refine eA ?_;first|refine bH rfl rfl rfl ?_|refine aU rfl rfl rfl ?_)|(refine aB ?_;refine TL.pure rfl rfl ?_)|refine aK rfl yM rfl ?_|refine TL.nil ?_|(refine aH ?_;refine aQ rfl yD rfl ?_)|refine TL.pure rfl rfl ?_)
       exact bD rfl iq
    intro v8 hg8
    repeat (first|(refine aB ?_;refine TL.pure rfl rfl ?_)|(refine aD ?_;refine TL.pure rfl rfl ?_)|(refine bL ?_;refine bT rfl rfl (by omega) rfl ?_)|refine TL.nil ?_|refine aA ?_|refine aC ?_|refine aS ?_|refine aE rfl ?_|refine aW ?_)
    exact bG (k+1) ⟨rfl,rfl,rfl,rfl,rfl,rfl,rfl,rfl,rfl,rfl,trivial⟩ ⟨by omega,hg67.trans hg8⟩ (by omega)
   ·have hk0':0<k:=by omega
    obtain ⟨y0,hy0⟩:∃ q,its'[k-1]? = some q:=⟨_,List.getElem?_eq_getElem (by omega)⟩
    obtain ⟨pv,pvv,p0,p1,hpk,hpv⟩:=(hcc.go (Carry.grow hg67)).at' hy0
    rw [Nat.mul_comm] at p0 p1
    obtain ⟨pa,pc,rfl,sP0⟩:=hpk.sl
    have hlt0:=srt_lt hC7.tr.srt (show k-1<k by omega) hy0 hy
    have cP:∀ wq,Grow v7 wq→wq.cell? (at' aa ((k-1)*2))=some (.slice pa y0.1.length pc):=λ wq iq=>(hcq wq iq).row.cell p0
    have sP:=λ wq (iq:Grow v7 wq)=>sP0.grow iq
    have hok0:okS y0.1:=by
     obtain ⟨u0,hfu0,_⟩:=hC7.hd.has.yes hC7.tr.srt (k:=y0.1) (v:=y0.2) (List.mem_of_getElem? hy0)
     obtain ⟨es,cl,_,_,h3,_⟩:=hC7.hd.mp
     exact (h3 _ _ hfu0).1
    have hge:(!(Op.bytesLess (iH y0.1).toList (iH y.1).toList))=false:=by rw [less_txt hok0.1 hoky.1,decide_eq_true hlt0];rfl
    apply T.det 33 [.bool true,.bool false,.bool false,.slice ua y.2.length uc,.string (iH y.2),.slice aa its'.length ca,.int .i64 (k:Int),.pointer (some (at' aa (k*2))),.pointer (some (at' aa (k*2+1))),.slice va2 y.2.length vc2,.string (iH y.2),.bool false,.bool false,.bool false,.int .i64 (k:Int),.bool true,.bool true,.slice aa its'.length ca,.int .i64 (k:Int),.int .i64 ((k-1:Nat):Int),.pointer (some (at' aa ((k-1)*2))),.pointer (some (at' aa ((k-1)*2))),.slice pa y0.1.length pc,.string (iH y0.1),.slice aa its'.length ca,.int .i64 (k:Int),.pointer (some (at' aa (k*2))),.pointer (some (at' aa (k*2))),.slice ka2 y.1.length kc2,.string (iH y.1),.bool false,.bool false,.bool false] (λ wq=>Grow v7 wq)
    ·rfl
    ·exact λ _ h=>h
    ·repeat' (first|exact gX|refine fX ?_ ?_)
     iterate 33
      ·first|refine jT rfl rfl rfl ?_|refine det_mkG rfl rfl rfl ?_
       intro wq iq
       have h1:=hcq wq iq
       have h2:=c0 wq iq
       have h3:=c1 wq iq
       have sU1:=sU wq iq
       have sV1:=sV wq iq
       have sK1:=sK wq iq
       have h4:=cP wq iq
       have sP1:=sP wq iq
       repeat (first|(refine dW 9 ?_;refine TL.neS (s:=iH y.2) (t:=iH y.2) (b:=false) rfl rfl (by simp) rfl ?_)|(refine aH ?_;refine TL.geS (s:=iH y0.1) (t:=iH y.1) (b:=false) rfl rfl hge rfl ?_)|(refine bC ?_;refine aV (j:=k) rfl rfl rfl hkl rfl ⟨_,_,h1⟩ rfl ?_)|(refine bC ?_;refine aV (j:=k-1) rfl rfl rfl (by omega) rfl ⟨_,_,h1⟩ rfl ?_)|(refine dU ?_;refine dV (o:=k*2) rfl h1 q0 rfl ?_)|(refine dU ?_;refine dV (o:=(k-1)*2) rfl h1 p0 rfl ?_)|refine gA rfl sU1 rfl ?_|refine gA rfl sV1 rfl ?_|refine gA rfl sK1 rfl ?_|refine gA rfl sP1 rfl ?_|refine aU rfl rfl rfl ?_|(refine aB ?_;refine TL.pure rfl rfl ?_)|refine aK rfl yM rfl ?_|(refine cN ?_;refine dN rfl rfl (by omega) (by omega) rfl ?_)|refine TL.nil ?_|(refine aH ?_;refine aZ rfl yD rfl ?_)|refine TL.pure rfl rfl ?_)
       exact bD rfl iq
    intro v8 hg8
    repeat (first|(refine aB ?_;refine TL.pure rfl rfl ?_)|(refine aD ?_;refine TL.pure rfl rfl ?_)|(refine bL ?_;refine bT rfl rfl (by omega) rfl ?_)|refine TL.nil ?_|refine aA ?_|refine aC ?_|refine aS ?_|refine aE rfl ?_|refine aW ?_)
    exact bG (k+1) ⟨rfl,rfl,rfl,rfl,rfl,rfl,rfl,rfl,rfl,rfl,trivial⟩ ⟨by omega,hg67.trans hg8⟩ (by omega)
  ·repeat (first|(refine aB ?_;refine TL.pure rfl rfl ?_)|refine TL.nil ?_|refine aA ?_|refine aJ ?_|refine aC ?_|(refine aH ?_;refine aQ rfl yD rfl ?_)|refine aO rfl rfl ?_|refine aE rfl ?_|refine cV ?_|refine bN ?_|refine bP ?_|refine bO ?_)
   refine TL.buildSlice rfl rfl rfl rfl rfl ?_
   intro b8 w8 hg8 hb8 hs8 hs8' hs8''
   have hC8:=hC7.grow hg8
   have hl80':=hC8.len
   have hrl:(hst.map (·.1)).length=i:=by rw [List.length_map,hl80']
   have htl:(hst.map λ h=>iL h.2.2.1).length=i:=by rw [List.length_map,hl80']
   have hsl8:Sl (λ k=>k=b8) w8 1 (some ⟨b8,0,none⟩) 1 1 [.int .i64 (dF root')]:=bR (sz:=1) (m:=1) (show Blk w8 b8 3 [.int .i64 (dF root')] from hb8) rfl (by decide)
   have hz8:=hC8.gr.size
   refine iF rfl rfl hC8.hd.r hsl8 (λ u hu=>by rw [List.mem_singleton] at hu;subst hu;rfl) (by unfold maxLen;omega) (by omega) (by omega) rfl ?_
   intro rv' w9 hown9 hgb9 hcar9
   have hlt8:=hC8.pg.at_.lts
   have hll8:∀ k,L.S k∨k=L.d→k<w8.heap.size:=λ k hk=>by unfold PL.S at hk;omega
   have hd9:=hC8.hd.pushR hll8 hown9 hgb9 hcar9
   have gr9:Grow w w9:=grow_own hC8.gr hC8.hd.r hgb9
   have pg9:PgW w9 L g':=hC8.pg.own hgb9 (λ b hb e=>by
    have h1:=(hC8.hd.rn b e).1
    unfold PL.S at h1
    rcases hb with rfl|rfl|rfl|rfl
    ·exact h1 (.inr (.inr rfl))
    ·exact hC8.hd.dn.1 e
    ·exact h1 (.inl rfl)
    ·exact h1 (.inr (.inl rfl))) (λ e=>by have:=(cJ hC8.hd.r e).1;omega)
   repeat ((refine aB ?_;refine TL.pure rfl rfl ?_))
   refine TL.buildSlice rfl rfl rfl rfl rfl ?_
   intro b10' w10 hg10 hb10' hs10 hs10' hs10''
   have hd10:=hd9.grow hg10
   have pg10:=pg9.grow hg10
   have gr10:=gr9.trans hg10
   have hz10:=gr10.size
   have hsl10:Sl (λ k=>k=b10') w10 1 (some ⟨b10',0,none⟩) 1 1 [.string (iH (iL its'))]:=bR (sz:=1) (m:=1) (show Blk w10 b10' 9 [.string (iH (iL its'))] from hb10') rfl (by decide)
   refine iF rfl rfl hd10.t hsl10 (λ u hu=>by rw [List.mem_singleton] at hu;subst hu;rfl) (by unfold maxLen;omega) (by omega) (by omega) rfl ?_
   intro tv' w11 hown11 hgb11 hcar11
   have hlt10:=pg10.at_.lts
   have hll10:∀ k,L.S k∨k=L.d→k<w10.heap.size:=λ k hk=>by unfold PL.S at hk;omega
   have hd11:=hd10.pushT hll10 hown11 hgb11 hcar11
   have gr11:Grow w w11:=grow_own gr10 hd10.t hgb11
   have pg11:PgW w11 L g':=pg10.own hgb11 (λ b hb e=>by
    have h1:=(hd10.tn b e).1
    unfold PL.S at h1
    rcases hb with rfl|rfl|rfl|rfl
    ·exact h1 (.inr (.inr rfl))
    ·exact hd10.dn.2 e
    ·exact h1 (.inl rfl)
    ·exact h1 (.inr (.inl rfl))) (λ e=>by have:=(cJ hd10.t e).1;omega)
   obtain ⟨hst',hst'e⟩:∃ z,z=hst++[(root',lv',its',ps')]:=⟨_,rfl⟩
   have hl':hst'.length=i+1:=by rw [hst'e,List.length_append,hl80'];rfl
   have hold':∀ (j:Nat) (h:Option Nat×Nat×dO×List Nat),hst'[j]? = some h→i+1≤j+3→TrAt g' h.1 h.2.1 h.2.2.1 h.2.2.2∧h.2.2.1.length≤80:=λ j h hj h3=>by
    rw [hst'e] at hj
    by_cases hji:j<hst.length
    ·rw [List.getElem?_append_left hji] at hj
     exact hC8.old j h hj (by omega)
    ·rw [List.getElem?_append_right (by omega)] at hj
     have h0:j-hst.length=0:=by
      have:=(List.getElem?_eq_some_iff.1 hj).1
      simpa using this
     rw [h0] at hj
     simp only [List.getElem?_cons_zero,Option.some.injEq] at hj
     subst hj
     exact ⟨hC8.tr,show its'.length≤80 by omega⟩
   have hC11:Lc w w11 m L0.p (i+1) (i+1) L g' root' lv' its' ps' f' rv' tv' hst':=⟨hC8.p,pg11,hC8.new,by rw [hst'e,List.map_append,List.map_append];exact hd11,hl',hC8.tr,hold',hC8.il,hC8.cnt,gr11⟩
   have hlast':hst'[i+1-1]? = some (root',lv',its',ps'):=by
    rw [hst'e,Nat.add_sub_cancel,List.getElem?_append_right (by omega),show i-hst.length=0 by omega]
    rfl
   clear hd9 hd10 hd11 pg9 pg10 pg11 gr9 gr10 gr11 hown9 hown11 hgb9 hgb11 hcar9 hcar11 hold' hC6 hC7 hC8
   have hrl':(hst'.map (·.1)).length=i+1:=by rw [List.length_map,hl']
   have htl':(hst'.map λ h=>iL h.2.2.1).length=i+1:=by rw [List.length_map,hl']
   obtain ⟨ra,rc,rfl,hrs⟩:=bX hC11.hd.r
   obtain ⟨ta,tc,rfl,hts⟩:=bX hC11.hd.t
   rw [hrl'] at hrs hC11 ⊢
   rw [htl'] at hts hC11 ⊢
   repeat (first|(refine jG ?_;refine TL.maxV (r:=((i+1-3:Nat):Int)) rfl rfl (by split<;>omega) rfl ?_)|(refine aB ?_;refine TL.pure rfl rfl ?_)|(refine aD ?_;refine TL.pure rfl rfl ?_)|(refine cN ?_;refine iT rfl rfl (by omega) (by omega) rfl ?_)|refine TL.nil ?_|refine aA ?_|refine aJ ?_|refine aC ?_|refine T.block ?_|refine aO rfl rfl ?_)
   refine cU (S:=Nat) (λ k=>[(34,.int .i64 (k:Int)),(9,.int .i64 (i:Int)),(8,.slice ta (i+1) tc),(7,.slice ra (i+1) rc),(6,.int .i64 (dF root')),(5,.map (some m)),(3,.pointer (some ⟨L.p,0,none⟩)),(0,.slice a l.length c)]) (λ k v12=>i+1-3≤k∧k≤i+1∧Grow w11 v12) (λ k=>i+1-k) (i+1-3) ⟨rfl,rfl,rfl,rfl,rfl,rfl,rfl,rfl,trivial⟩ ⟨Nat.le_refl _,by omega,Grow.refl _⟩ ?_
   rintro k v12 ⟨hk1',hk2',hg12⟩
   have hC12:=hC11.grow hg12
   by_cases hkl':k<i+1
   ·obtain ⟨hh,hk⟩:∃ q,hst'[k]? = some q:=⟨_,List.getElem?_eq_getElem (by omega)⟩
    obtain ⟨htk,h80⟩:=hC12.old k hh hk (by omega)
    have hrs3:=hrs.grow hg12
    have hcell:v12.cell? (at' ra k)=some (.int .i64 (dF hh.1)):=hrs3.row.cell (by simp [rootVs,hk])
    have hlvk:hh.2.1≤3:=htk.levels (k:=3) (by omega) (by omega)
    repeat (first|(refine bC ?_;refine aV (j:=k) rfl rfl rfl hkl' (Nat.mul_one _) ⟨_,_,hrs3⟩ rfl ?_)|(refine aB ?_;refine TL.pure rfl rfl ?_)|refine aK rfl yM rfl ?_|refine TL.nil ?_|refine aA ?_|refine aJ ?_|refine aC ?_|refine T.block ?_|(refine aH ?_;refine aZ rfl yD rfl ?_)|refine aO rfl rfl ?_|refine aM rfl ?_|refine aW ?_)
    refine aL 17 ?_
    refine aI rfl (told_c hC12.pg.at_ htk (by omega) (by omega)) rfl ?_
    rintro _ v13 ⟨rfl,hg13⟩
    have hts3:=hts.grow (hg12.trans hg13)
    have hcell2:v13.cell? (at' ta k)=some (.string (iH (iL hh.2.2.1))):=hts3.row.cell (by simp [txtVs,hk])
    repeat (first|(refine bC ?_;refine aV (j:=k) rfl rfl rfl hkl' (Nat.mul_one _) ⟨_,_,hts3⟩ rfl ?_)|(refine dW 9 ?_;refine TL.neS (s:=iH (iL hh.2.2.1)) (t:=iH (iL hh.2.2.1)) (b:=false) rfl rfl (by simp) rfl ?_)|(refine aB ?_;refine TL.pure rfl rfl ?_)|(refine aD ?_;refine TL.pure rfl rfl ?_)|refine aK rfl yM rfl ?_|(refine bL ?_;refine bT rfl rfl (by omega) rfl ?_)|refine TL.nil ?_|refine aA ?_|refine aJ ?_|refine aC ?_|refine aS ?_|refine aE rfl ?_|refine aW ?_|refine TL.pure rfl rfl ?_)
    exact bG (k+1) ⟨rfl,rfl,rfl,rfl,rfl,rfl,rfl,rfl,trivial⟩ ⟨by omega,by omega,hg12.trans hg13⟩ (by omega)
   ·repeat (first|(refine aB ?_;refine TL.pure rfl rfl ?_)|(refine aD ?_;refine TL.pure rfl rfl ?_)|(refine bL ?_;refine bT rfl rfl (by omega) rfl ?_)|refine TL.nil ?_|refine aA ?_|refine aJ ?_|refine aC ?_|refine aS ?_|(refine aH ?_;refine aQ rfl yD rfl ?_)|refine aO rfl rfl ?_|refine aE rfl ?_|refine cV ?_|refine bN ?_|refine bP ?_|refine bO ?_)
    refine bG (i+1,L,g',root',f',.slice ra (i+1) rc,.slice ta (i+1) tc,its',hst') ⟨rfl,rfl,rfl,rfl,rfl,by rw [← hC12.p];rfl,rfl,trivial⟩ ⟨by simp only;omega,lv',ps',hC12,.inl hlast'⟩ (by simp only;omega)
end Go.Proofs.YtfpadnmdafiddaaGreatDoor
