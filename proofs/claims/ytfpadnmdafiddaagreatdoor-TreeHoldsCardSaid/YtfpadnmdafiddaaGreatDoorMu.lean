import Derived.Test.YtfpadnmdafiddaaGreatDoorMn
set_option linter.all false
set_option maxHeartbeats 16000000
set_option maxRecDepth 100000
namespace Go.Proofs.YtfpadnmdafiddaaGreatDoor
theorem mV {a b c d:Nat} (ha:a<256) (hc:c<256):(a+256*b)&&&(c+256*d)=(a&&&c)+256*(b&&&d):=by
 have key:∀ x y i:Nat,x<256→(x+256*y).testBit i=if i<8 then x.testBit i else y.testBit (i-8):=by
  intro x y i hx
  have:=Nat.testBit_two_pow_mul_add y (b:=x) (i:=8) (by simpa using hx) i
  rw [Nat.add_comm,show (256:Nat)=2^8 by decide]
  exact this
 have hac:a&&&c<256:=Nat.lt_of_le_of_lt Nat.and_le_left ha
 apply Nat.eq_of_testBit_eq
 intro i
 rw [Nat.testBit_and,key a b i ha,key c d i hc,key _ _ i hac]
 by_cases h:i<8<;>simp [h,Nat.testBit_and]
def lanes (c:Nat):Nat→Nat
 | 0=>0
 | k+1=>c+256*lanes c k
def gS:List Nat→Nat
 | []=>0
 | b::bs=>b+256*gS bs
def A8 (b:Nat):Nat:=(b / 2&&&85)+(b&&&85)
def B8 (b:Nat):Nat:=(b / 4&&&51)+(b&&&51)
def C8 (b:Nat):Nat:=b / 16+b%16
theorem a8:∀ (b:Fin 256) (t:Fin 2),(b.val / 2+128*t.val)&&&85=b.val / 2&&&85:=by decide +kernel
theorem b8:∀ (b:Fin 256) (t:Fin 4),(b.val / 4+64*t.val)&&&51=b.val / 4&&&51:=by decide +kernel
theorem a8_ok:∀ b:Fin 256,A8 b.val<256:=by decide +kernel
theorem b8_ok:∀ b:Fin 256,B8 (A8 b.val)<256∧B8 (A8 b.val)%16≤4∧B8 (A8 b.val) / 16≤4:=by decide +kernel
def mR (b:Nat):Nat:=b%2+b / 2%2+b / 4%2+b / 8%2+b / 16%2+b / 32%2+b / 64%2+b / 128%2
theorem c8_ok:∀ b:Fin 256,C8 (B8 (A8 b.val))=mR b.val:=by decide +kernel
theorem stepA:∀ (bs:List Nat),(∀ b∈bs,b<256)→(gS bs / 2&&&lanes 85 bs.length)+(gS bs&&&lanes 85 bs.length)=gS (bs.map A8)
 | [],_=>rfl
 | b::bs,h=>by
  have hb:=h b (by simp)
  have ih:=stepA bs (λ x hx=>h x (by simp [hx]))
  simp only [gS,lanes,List.length_cons,List.map_cons]
  have e:(b+256*gS bs) / 2=(b / 2+128*(gS bs%2))+256*(gS bs / 2):=by omega
  rw [e,mV (by omega) (by omega),mV hb (by omega),a8 ⟨b,hb⟩ ⟨gS bs%2,by omega⟩,← ih]
  simp only [A8]
  omega
theorem stepB:∀ (bs:List Nat),(∀ b∈bs,b<256)→(gS bs / 4&&&lanes 51 bs.length)+(gS bs&&&lanes 51 bs.length)=gS (bs.map B8)
 | [],_=>rfl
 | b::bs,h=>by
  have hb:=h b (by simp)
  have ih:=stepB bs (λ x hx=>h x (by simp [hx]))
  simp only [gS,lanes,List.length_cons,List.map_cons]
  have e:(b+256*gS bs) / 4=(b / 4+64*(gS bs%4))+256*(gS bs / 4):=by omega
  rw [e,mV (by omega) (by omega),mV hb (by omega),b8 ⟨b,hb⟩ ⟨gS bs%4,by omega⟩,← ih]
  simp only [B8]
  omega
theorem and15 (x:Nat):x&&&15=x%16:=Nat.and_two_pow_sub_one_eq_mod x 4
theorem and127 (x:Nat):x&&&127=x%128:=Nat.and_two_pow_sub_one_eq_mod x 7
theorem stepC:∀ (bs:List Nat),(∀ b∈bs,b<256∧b%16≤4∧b / 16≤4)→(gS bs / 16+gS bs)&&&lanes 15 bs.length=gS (bs.map C8)
 | [],_=>rfl
 | b::bs,h=>by
  have hb:=h b (by simp)
  have ih:=stepC bs (λ x hx=>h x (by simp [hx]))
  have hlow:gS bs%16≤4:=by
   cases bs with
   | nil=>simp [gS]
   | cons x xs=>have:=h x (by simp);simp only [gS];omega
  simp only [gS,lanes,List.length_cons,List.map_cons]
  have e:(b+256*gS bs) / 16+(b+256*gS bs)=(b / 16+16*(gS bs%16)+b)+256*(gS bs / 16+gS bs):=by omega
  rw [e,mV (by omega) (by omega),ih,and15]
  simp only [C8]
  omega
theorem lanes85:lanes 85 8=6148914691236517205:=by decide
theorem lanes51:lanes 51 8=3689348814741910323:=by decide
theorem lanes15:lanes 15 8=1085102592571150095:=by decide
def fU (x:Nat):List Nat:=[x%256,x / 256%256,x / 65536%256,x / 16777216%256,x / 4294967296%256,x / 1099511627776%256,x / 281474976710656%256,x / 72057594037927936%256]
theorem bytes8_val (x:Nat) (h:x<18446744073709551616):gS (fU x)=x:=by simp only [fU,gS];omega
theorem bytes8_lt (x:Nat):∀ b∈fU x,b<256:=by
 intro b hb
 simp only [fU,List.mem_cons,List.not_mem_nil,or_false] at hb
 omega
def ones (x:Nat):Nat:=((fU x).map mR).sum
theorem iM (b:Nat):mR b≤8:=by unfold mR;omega
theorem pop_masks (x:Nat) (h:x<18446744073709551616):∃ y z v,(x / 2&&&6148914691236517205)+(x&&&6148914691236517205)=y∧(y / 4&&&3689348814741910323)+(y&&&3689348814741910323)=z∧(z / 16+z)&&&1085102592571150095=v ∧
  y<18446744073709551616∧z≤4919131752989213764∧v≤578721382704613384∧v=gS ((fU x).map mR):=by
 have hx:=bytes8_val x h
 have hlt:=bytes8_lt x
 have h1:=stepA (fU x) hlt
 rw [show (fU x).length=8 from rfl,lanes85,hx] at h1
 have hltA:∀ b∈(fU x).map A8,b<256:=by
  intro b hb
  obtain ⟨c,hc,rfl⟩:=List.mem_map.1 hb
  exact a8_ok ⟨c,hlt c hc⟩
 have h2:=stepB _ hltA
 rw [show ((fU x).map A8).length=8 from rfl,lanes51] at h2
 have hltB:∀ b∈((fU x).map A8).map B8,b<256∧b%16≤4∧b / 16≤4:=by
  intro b hb
  obtain ⟨c,hc,rfl⟩:=List.mem_map.1 hb
  obtain ⟨c2,hc2,rfl⟩:=List.mem_map.1 hc
  exact b8_ok ⟨c2,hlt c2 hc2⟩
 have h3:=stepC _ hltB
 rw [show (((fU x).map A8).map B8).length=8 from rfl,lanes15] at h3
 have h4:(((fU x).map A8).map B8).map C8=(fU x).map mR:=by
  rw [List.map_map,List.map_map]
  apply List.map_congr_left
  intro b hb
  exact c8_ok ⟨b,hlt b hb⟩
 rw [h4] at h3
 refine ⟨_,_,_,h1,h2,h3,?_,?_,?_,rfl⟩
 ·generalize hA:(fU x).map A8=l at hltA
  match l,show l.length=8 by rw [← hA];rfl with
  | [a,b,c,d,e,f,g,i],_=>simp only [gS];simp at hltA;omega
 ·generalize hB:((fU x).map A8).map B8=l at hltB
  match l,show l.length=8 by rw [← hB];rfl with
  | [a,b,c,d,e,f,g,i],_=>simp only [gS];simp at hltB;omega
 ·have hm:∀ b∈(fU x).map mR,b≤8:=by
   intro b hb
   obtain ⟨c,_,rfl⟩:=List.mem_map.1 hb
   exact iM c
  generalize hC:(fU x).map mR=l at hm
  match l,show l.length=8 by rw [← hC];rfl with
  | [a,b,c,d,e,f,g,i],_=>simp only [gS];simp at hm;omega
theorem divr {r q m:Nat} (h:r<m):(r+m*q) / m=q:=by
 rw [Nat.add_mul_div_left _ _ (by omega),Nat.div_eq_of_lt h,Nat.zero_add]
theorem pop_num (a0 a1 a2 a3 a4 a5 a6 a7:Nat) (h0:a0≤8) (h1:a1≤8) (h2:a2≤8) (h3:a3≤8) (h4:a4≤8) (h5:a5≤8) (h6:a6≤8) (h7:a7≤8) (v D1 D2:Nat) (hv:v=gS [a0,a1,a2,a3,a4,a5,a6,a7]) (hD1:D1=v+v / 256) (hD2:D2=D1+D1 / 65536) :
  (D2+D2 / 4294967296)%128=a0+a1+a2+a3+a4+a5+a6+a7:=by
 have e1:v / 256=gS [a1,a2,a3,a4,a5,a6,a7]:=by
  rw [hv];exact divr (by omega)
 have e2:D1=((a0+a1)+256*(a1+a2))+65536*((a2+a3)+256*(a3+a4)+65536*((a4+a5)+256*(a5+a6)+65536*((a6+a7)+256*a7))):=by
  rw [hD1,e1,hv];simp only [gS];omega
 have e3:D1 / 65536=(a2+a3)+256*(a3+a4)+65536*((a4+a5)+256*(a5+a6)+65536*((a6+a7)+256*a7)):=by
  rw [e2];exact divr (by omega)
 have e4:D2=((a0+a1+a2+a3)+256*(a1+a2+a3+a4)+65536*(a2+a3+a4+a5)+16777216*(a3+a4+a5+a6))+4294967296*((a4+a5+a6+a7)+256*(a5+a6+a7)+65536*((a6+a7)+256*a7)):=by
  rw [hD2,e3,e2];clear hv hD1 hD2 e1 e2 e3 h0 h1 h2 h3 h4 h5 h6 h7;omega
 have e5:D2 / 4294967296=(a4+a5+a6+a7)+256*(a5+a6+a7)+65536*((a6+a7)+256*a7):=by
  rw [e4];exact divr (by clear hv hD1 hD2 e1 e2 e3 e4;omega)
 have e6:D2+D2 / 4294967296=(a0+a1+a2+a3+a4+a5+a6+a7)+128*(2*((a1+a2+a3+a4)+256*(a2+a3+a4+a5)+65536*(a3+a4+a5+a6)+(a5+a6+a7)+256*((a6+a7)+256*a7)+16777216*((a4+a5+a6+a7)+256*(a5+a6+a7)+65536*((a6+a7)+256*a7)))):=by
  rw [e5,e4];clear hv hD1 hD2 e1 e2 e3 e4 e5 h0 h1 h2 h3 h4 h5 h6 h7;omega
 rw [e6,Nat.add_mul_mod_self_left,Nat.mod_eq_of_lt (by clear hv hD1 hD2 e1 e2 e3 e4 e5 e6;omega)]
theorem pop_sum (x v:Nat) (hv:v=gS ((fU x).map mR)):((v+v / 256)+(v+v / 256) / 65536+((v+v / 256)+(v+v / 256) / 65536) / 4294967296)%128=ones x:=by
 have:=pop_num _ _ _ _ _ _ _ _ (iM (x%256)) (iM (x / 256%256)) (iM (x / 65536%256)) (iM (x / 16777216%256)) (iM (x / 4294967296%256)) (iM (x / 1099511627776%256)) (iM (x / 281474976710656%256)) (iM (x / 72057594037927936%256)) v _ _ hv rfl rfl
 rw [this]
 unfold ones
 simp only [fU,List.map_cons,List.map_nil,List.sum_cons,List.sum_nil,Nat.add_assoc,Nat.add_zero]
end Go.Proofs.YtfpadnmdafiddaaGreatDoor
