/-
  The bytes of a number, one by one: what the i-th is, how a bit is put in; the words of a number, read bit by bit.
-/
import Derived.Test.YtmpjigghgedjbaaRa
import Derived.Test.YtmpjigghgedjbaaFi
namespace Go.Proofs.Ytmpjigghgedjbaa
open Go Go.V
set_option linter.unusedSimpArgs false
set_option linter.unusedVariables false

theorem b1_eq {x y : Nat} (h : x = y) : some (B1 x) = some (B1 y) := by rw [h]
/-- The i-th byte. -/
def byteN (N i : Nat) : Nat := N / 256 ^ i % 256
theorem byteN_lt (N i : Nat) : byteN N i < 256 := Nat.mod_lt _ (by decide)
theorem numL_at {N : Nat} : ∀ {i : Nat}, i < 32 → (numL N)[i]? = some (B1 (byteN N i))
  | 0, _ => b1_eq (show (N % 18446744073709551616) % 256 = N / 1 % 256 by omega)
  | 1, _ => b1_eq (show (N % 18446744073709551616) / 256 % 256 = N / 256 % 256 by omega)
  | 2, _ => b1_eq (show (N % 18446744073709551616) / 65536 % 256 = N / 65536 % 256 by omega)
  | 3, _ => b1_eq (show (N % 18446744073709551616) / 16777216 % 256 = N / 16777216 % 256 by omega)
  | 4, _ => b1_eq (show (N % 18446744073709551616) / 4294967296 % 256 = N / 4294967296 % 256 by omega)
  | 5, _ => b1_eq (show (N % 18446744073709551616) / 1099511627776 % 256 = N / 1099511627776 % 256 by omega)
  | 6, _ => b1_eq (show (N % 18446744073709551616) / 281474976710656 % 256 = N / 281474976710656 % 256 by omega)
  | 7, _ => b1_eq (show (N % 18446744073709551616) / 72057594037927936 % 256 = N / 72057594037927936 % 256 by omega)
  | 8, _ => b1_eq (show (N / 18446744073709551616 % 18446744073709551616) % 256 = N / 18446744073709551616 % 256 by omega)
  | 9, _ => b1_eq (show (N / 18446744073709551616 % 18446744073709551616) / 256 % 256 = N / 4722366482869645213696 % 256 by omega)
  | 10, _ => b1_eq (show (N / 18446744073709551616 % 18446744073709551616) / 65536 % 256 = N / 1208925819614629174706176 % 256 by omega)
  | 11, _ => b1_eq (show (N / 18446744073709551616 % 18446744073709551616) / 16777216 % 256 = N / 309485009821345068724781056 % 256 by omega)
  | 12, _ => b1_eq (show (N / 18446744073709551616 % 18446744073709551616) / 4294967296 % 256 = N / 79228162514264337593543950336 % 256 by omega)
  | 13, _ => b1_eq (show (N / 18446744073709551616 % 18446744073709551616) / 1099511627776 % 256 = N / 20282409603651670423947251286016 % 256 by omega)
  | 14, _ => b1_eq (show (N / 18446744073709551616 % 18446744073709551616) / 281474976710656 % 256 = N / 5192296858534827628530496329220096 % 256 by omega)
  | 15, _ => b1_eq (show (N / 18446744073709551616 % 18446744073709551616) / 72057594037927936 % 256 = N / 1329227995784915872903807060280344576 % 256 by omega)
  | 16, _ => b1_eq (show (N / 340282366920938463463374607431768211456 % 18446744073709551616) % 256 = N / 340282366920938463463374607431768211456 % 256 by omega)
  | 17, _ => b1_eq (show (N / 340282366920938463463374607431768211456 % 18446744073709551616) / 256 % 256 = N / 87112285931760246646623899502532662132736 % 256 by omega)
  | 18, _ => b1_eq (show (N / 340282366920938463463374607431768211456 % 18446744073709551616) / 65536 % 256 = N / 22300745198530623141535718272648361505980416 % 256 by omega)
  | 19, _ => b1_eq (show (N / 340282366920938463463374607431768211456 % 18446744073709551616) / 16777216 % 256 = N / 5708990770823839524233143877797980545530986496 % 256 by omega)
  | 20, _ => b1_eq (show (N / 340282366920938463463374607431768211456 % 18446744073709551616) / 4294967296 % 256 = N / 1461501637330902918203684832716283019655932542976 % 256 by omega)
  | 21, _ => b1_eq (show (N / 340282366920938463463374607431768211456 % 18446744073709551616) / 1099511627776 % 256 = N / 374144419156711147060143317175368453031918731001856 % 256 by omega)
  | 22, _ => b1_eq (show (N / 340282366920938463463374607431768211456 % 18446744073709551616) / 281474976710656 % 256 = N / 95780971304118053647396689196894323976171195136475136 % 256 by omega)
  | 23, _ => b1_eq (show (N / 340282366920938463463374607431768211456 % 18446744073709551616) / 72057594037927936 % 256 = N / 24519928653854221733733552434404946937899825954937634816 % 256 by omega)
  | 24, _ => b1_eq (show (N / 6277101735386680763835789423207666416102355444464034512896 % 18446744073709551616) % 256 = N / 6277101735386680763835789423207666416102355444464034512896 % 256 by omega)
  | 25, _ => b1_eq (show (N / 6277101735386680763835789423207666416102355444464034512896 % 18446744073709551616) / 256 % 256 = N / 1606938044258990275541962092341162602522202993782792835301376 % 256 by omega)
  | 26, _ => b1_eq (show (N / 6277101735386680763835789423207666416102355444464034512896 % 18446744073709551616) / 65536 % 256 = N / 411376139330301510538742295639337626245683966408394965837152256 % 256 by omega)
  | 27, _ => b1_eq (show (N / 6277101735386680763835789423207666416102355444464034512896 % 18446744073709551616) / 16777216 % 256 = N / 105312291668557186697918027683670432318895095400549111254310977536 % 256 by omega)
  | 28, _ => b1_eq (show (N / 6277101735386680763835789423207666416102355444464034512896 % 18446744073709551616) / 4294967296 % 256 = N / 26959946667150639794667015087019630673637144422540572481103610249216 % 256 by omega)
  | 29, _ => b1_eq (show (N / 6277101735386680763835789423207666416102355444464034512896 % 18446744073709551616) / 1099511627776 % 256 = N / 6901746346790563787434755862277025452451108972170386555162524223799296 % 256 by omega)
  | 30, _ => b1_eq (show (N / 6277101735386680763835789423207666416102355444464034512896 % 18446744073709551616) / 281474976710656 % 256 = N / 1766847064778384329583297500742918515827483896875618958121606201292619776 % 256 by omega)
  | 31, _ => b1_eq (show (N / 6277101735386680763835789423207666416102355444464034512896 % 18446744073709551616) / 72057594037927936 % 256 = N / 452312848583266388373324160190187140051835877600158453279131187530910662656 % 256 by omega)
  | _ + 32, h => absurd h (by omega)
theorem numL_len (N : Nat) : (numL N).length = 32 := rfl
theorem numL_ext {l : List Value} {N : Nat} (hl : l.length = 32) (h : ∀ i, i < 32 → l[i]? = some (B1 (byteN N i))) : l = numL N := by
  refine List.ext_getElem? fun i => ?_
  rcases Nat.lt_or_ge i 32 with hi | hi
  · rw [h i hi, numL_at hi]
  · rw [List.getElem?_eq_none (by omega), List.getElem?_eq_none (by rw [numL_len]; exact hi)]
theorem numL_set {N M t : Nat} {x : Nat} (ht : t < 32) (hx : x = byteN M t) (h : ∀ i, i < 32 → i ≠ t → byteN M i = byteN N i) : (numL N).set t (B1 x) = numL M := by
  refine numL_ext (by simp [numL_len]) fun i hi => ?_
  rw [List.getElem?_set]
  by_cases hit : t = i
  · subst hit; rw [if_pos rfl, if_pos (by rw [numL_len]; exact hi), hx]
  · rw [if_neg hit, numL_at hi, h i hi (fun e => hit e.symm)]
theorem two_256 (i : Nat) : 256 ^ i = 2 ^ (8 * i) := by rw [Nat.pow_mul]
theorem byte_bit (N t : Nat) : byteN N (t / 8) / 2 ^ (t % 8) % 2 = N / 2 ^ t % 2 := by
  have e : 2 ^ t = 256 ^ (t / 8) * 2 ^ (t % 8) := by rw [two_256, ← Nat.pow_add, Nat.div_add_mod]
  rw [e, ← Nat.div_div_eq_div_mul]
  unfold byteN
  generalize N / 256 ^ (t / 8) = M
  have h8 : t % 8 < 8 := Nat.mod_lt _ (by decide)
  generalize t % 8 = r at *
  obtain rfl | rfl | rfl | rfl | rfl | rfl | rfl | rfl : r = 0 ∨ r = 1 ∨ r = 2 ∨ r = 3 ∨ r = 4 ∨ r = 5 ∨ r = 6 ∨ r = 7 := by omega
  all_goals (simp only [Nat.reducePow]; omega)
theorem pow8_lt {r : Nat} (h : r < 8) : 2 ^ r ≤ 128 := by
  obtain rfl | rfl | rfl | rfl | rfl | rfl | rfl | rfl : r = 0 ∨ r = 1 ∨ r = 2 ∨ r = 3 ∨ r = 4 ∨ r = 5 ∨ r = 6 ∨ r = 7 := by omega
  all_goals decide
/-- A bit above all others is put in. -/
theorem put_small {N t : Nat} (hN : N < 2 ^ t) : byteN N (t / 8) < 2 ^ (t % 8) := by
  have e : 2 ^ t = 256 ^ (t / 8) * 2 ^ (t % 8) := by rw [two_256, ← Nat.pow_add, Nat.div_add_mod]
  have h1 : N / 256 ^ (t / 8) < 2 ^ (t % 8) := Nat.div_lt_of_lt_mul (by rw [← e]; exact hN)
  have h2 := pow8_lt (Nat.mod_lt t (show 0 < 8 by decide))
  unfold byteN
  rw [Nat.mod_eq_of_lt (by omega)]
  exact h1
theorem put_bit {N t : Nat} (ht : t < 256) (hN : N < 2 ^ t) : (numL N).set (t / 8) (B1 (byteN N (t / 8) + 2 ^ (t % 8))) = numL (N + 2 ^ t) := by
  have e : 2 ^ t = 256 ^ (t / 8) * 2 ^ (t % 8) := by rw [two_256, ← Nat.pow_add, Nat.div_add_mod]
  have hs := put_small hN
  have h2 := pow8_lt (Nat.mod_lt t (show 0 < 8 by decide))
  refine numL_set (by omega) ?_ ?_
  · unfold byteN at hs ⊢
    have h1 : N / 256 ^ (t / 8) < 2 ^ (t % 8) := Nat.div_lt_of_lt_mul (by rw [← e]; exact hN)
    have h3 : (N + 2 ^ t) / 256 ^ (t / 8) = N / 256 ^ (t / 8) + 2 ^ (t % 8) := by rw [e, Nat.add_mul_div_left _ _ (Nat.pow_pos (by decide))]
    rw [h3, Nat.mod_eq_of_lt (show N / 256 ^ (t / 8) < 256 by omega), Nat.mod_eq_of_lt (show N / 256 ^ (t / 8) + 2 ^ (t % 8) < 256 by omega)]
  · intro i _ hne
    unfold byteN
    rcases Nat.lt_or_ge i (t / 8) with hi | hi
    · have e2 : 2 ^ t = 256 ^ i * (256 * 2 ^ (t - 8 * i - 8)) := by
        rw [two_256, show 256 = 2 ^ 8 from rfl, ← Nat.pow_add, ← Nat.pow_add]; congr 1; omega
      rw [e2, Nat.add_mul_div_left _ _ (Nat.pow_pos (by decide)), Nat.add_mul_mod_self_left]
    · have h3 : N + 2 ^ t < 256 ^ i := by
        have : 2 ^ (t + 1) ≤ 256 ^ i := by rw [two_256]; exact Nat.pow_le_pow_right (by decide) (by omega)
        rw [Nat.pow_succ] at this
        omega
      rw [Nat.div_eq_of_lt h3, Nat.div_eq_of_lt (by omega)]

/-- Where the i-th word begins; how many bits of a number it reads. -/
def offN (i : Nat) : Nat := (51 * i + 1) / 2
theorem offN_succ (i : Nat) : offN (i + 1) = offN i + bitsN i := by unfold offN bitsN; split <;> omega
def lenN (i : Nat) : Nat := if i = 9 then 26 else bitsN i
theorem lenN_le {i : Nat} (h : i < 10) : offN i + lenN i ≤ 256 := by
  unfold lenN offN bitsN; split <;> (try split) <;> omega
/-- What is open when k bits of the i-th word have been read. -/
def opL (N i k : Nat) : List Nat := (List.range 10).map fun j => if j < i then N / 2 ^ offN j % 2 ^ lenN j else if j = i then N / 2 ^ offN i % 2 ^ k else 0
theorem opL_len (N i k : Nat) : (opL N i k).length = 10 := by unfold opL; simp
theorem opL_gd (N i k j : Nat) (hj : j < 10) : gd (opL N i k) j = if j < i then N / 2 ^ offN j % 2 ^ lenN j else if j = i then N / 2 ^ offN i % 2 ^ k else 0 := by
  unfold gd opL
  rw [List.getD_eq_getElem?_getD, List.getElem?_map, List.getElem?_range hj]
  rfl
theorem ten_ext {l l' : List Nat} (h : l.length = 10) (h' : l'.length = 10) (hg : ∀ i, i < 10 → gd l i = gd l' i) : l = l' := by
  refine List.ext_getElem? fun i => ?_
  rcases Nat.lt_or_ge i 10 with hi | hi
  · have := hg i hi
    unfold gd at this
    rw [List.getD_eq_getElem?_getD, List.getD_eq_getElem?_getD, List.getElem?_eq_getElem (by omega), List.getElem?_eq_getElem (by omega)] at this
    rw [List.getElem?_eq_getElem (by omega), List.getElem?_eq_getElem (by omega)]
    exact congrArg some this
  · rw [List.getElem?_eq_none (by omega), List.getElem?_eq_none (by omega)]
theorem opL_next (N i : Nat) (hi : i < 10) : opL N i (lenN i) = opL N (i + 1) 0 := by
  refine ten_ext (opL_len _ _ _) (opL_len _ _ _) fun j hj => ?_
  rw [opL_gd _ _ _ _ hj, opL_gd _ _ _ _ hj]
  rcases Nat.lt_trichotomy j i with h | h | h
  · rw [if_pos h, if_pos (by omega)]
  · subst h; rw [if_neg (by omega), if_pos rfl, if_pos (by omega)]
  · rw [if_neg (by omega), if_neg (by omega), if_neg (by omega)]
    split
    · rw [Nat.pow_zero, Nat.mod_one]
    · rfl
theorem opL_start (N : Nat) : opL N 0 0 = [0, 0, 0, 0, 0, 0, 0, 0, 0, 0] := by
  refine ten_ext (opL_len _ _ _) rfl fun j hj => ?_
  rw [opL_gd _ _ _ _ hj, if_neg (by omega)]
  have : gd [0, 0, 0, 0, 0, 0, 0, 0, 0, 0] j = 0 := by
    obtain rfl | rfl | rfl | rfl | rfl | rfl | rfl | rfl | rfl | rfl : j = 0 ∨ j = 1 ∨ j = 2 ∨ j = 3 ∨ j = 4 ∨ j = 5 ∨ j = 6 ∨ j = 7 ∨ j = 8 ∨ j = 9 := by omega
    all_goals rfl
  rw [this]
  split
  · rw [Nat.pow_zero, Nat.mod_one]
  · rfl
theorem opL_at (N i k : Nat) (hi : i < 10) : gd (opL N i k) i = N / 2 ^ offN i % 2 ^ k := by rw [opL_gd _ _ _ _ hi, if_neg (by omega), if_pos rfl]
theorem mod_bit (X k : Nat) : X % 2 ^ (k + 1) = X % 2 ^ k + X / 2 ^ k % 2 * 2 ^ k := by
  rw [Nat.pow_succ, Nat.mod_mul, Nat.mul_comm]
theorem opL_bit (N i k b : Nat) (hi : i < 10) (hb : N / 2 ^ (offN i + k) % 2 = b) : (opL N i k).set i (gd (opL N i k) i + b * 2 ^ k) = opL N i (k + 1) := by
  refine ten_ext (by simp [opL_len]) (opL_len _ _ _) fun j hj => ?_
  rw [gd_set (by rw [opL_len]; exact hi)]
  split
  · rename_i h; subst h
    rw [opL_at _ _ _ hj, opL_at _ _ _ hj, mod_bit, Nat.div_div_eq_div_mul, ← Nat.pow_add, hb]
  · rename_i h
    rw [opL_gd _ _ _ _ hj, opL_gd _ _ _ _ hj, if_neg h, if_neg h]
theorem opL_zero (N i k : Nat) (hi : i < 10) (hb : N / 2 ^ (offN i + k) % 2 = 0) : opL N i k = opL N i (k + 1) := by
  have := opL_bit N i k 0 hi hb
  rw [← this]
  refine ten_ext (opL_len _ _ _) (by simp [opL_len]) fun j hj => ?_
  rw [gd_set (by rw [opL_len]; exact hi)]
  split
  · rename_i h; subst h; omega
  · rfl
theorem opL_val {N : Nat} (hN : N < 115792089237316195423570985008687907853269984665640564039457584007913129639936) : V10 (opL N 10 0) = N := by
  have e : opL N 10 0 = [N / 1 % 67108864, N / 67108864 % 33554432, N / 2251799813685248 % 67108864, N / 151115727451828646838272 % 33554432, N / 5070602400912917605986812821504 % 67108864, N / 340282366920938463463374607431768211456 % 33554432, N / 11417981541647679048466287755595961091061972992 % 67108864, N / 766247770432944429179173513575154591809369561091801088 % 33554432, N / 25711008708143844408671393477458601640355247900524685364822016 % 67108864, N / 1725436586697640946858688965569256363112777243042596638790631055949824 % 67108864] := rfl
  rw [e]
  simp only [V10]
  rw [show 1725436586697640946858688965569256363112777243042596638790631055949824 = 25711008708143844408671393477458601640355247900524685364822016 * 67108864 from rfl, ← Nat.div_div_eq_div_mul,
    show 25711008708143844408671393477458601640355247900524685364822016 = 766247770432944429179173513575154591809369561091801088 * 33554432 from rfl, ← Nat.div_div_eq_div_mul,
    show 766247770432944429179173513575154591809369561091801088 = 11417981541647679048466287755595961091061972992 * 67108864 from rfl, ← Nat.div_div_eq_div_mul,
    show 11417981541647679048466287755595961091061972992 = 340282366920938463463374607431768211456 * 33554432 from rfl, ← Nat.div_div_eq_div_mul,
    show 340282366920938463463374607431768211456 = 5070602400912917605986812821504 * 67108864 from rfl, ← Nat.div_div_eq_div_mul,
    show 5070602400912917605986812821504 = 151115727451828646838272 * 33554432 from rfl, ← Nat.div_div_eq_div_mul,
    show 151115727451828646838272 = 2251799813685248 * 67108864 from rfl, ← Nat.div_div_eq_div_mul,
    show 2251799813685248 = 67108864 * 33554432 from rfl, ← Nat.div_div_eq_div_mul]
  obtain ⟨n1, h1⟩ : ∃ n, n = N / 67108864 := ⟨_, rfl⟩
  rw [← h1]
  obtain ⟨n2, h2⟩ : ∃ n, n = n1 / 33554432 := ⟨_, rfl⟩
  rw [← h2]
  obtain ⟨n3, h3⟩ : ∃ n, n = n2 / 67108864 := ⟨_, rfl⟩
  rw [← h3]
  obtain ⟨n4, h4⟩ : ∃ n, n = n3 / 33554432 := ⟨_, rfl⟩
  rw [← h4]
  obtain ⟨n5, h5⟩ : ∃ n, n = n4 / 67108864 := ⟨_, rfl⟩
  rw [← h5]
  obtain ⟨n6, h6⟩ : ∃ n, n = n5 / 33554432 := ⟨_, rfl⟩
  rw [← h6]
  obtain ⟨n7, h7⟩ : ∃ n, n = n6 / 67108864 := ⟨_, rfl⟩
  rw [← h7]
  obtain ⟨n8, h8⟩ : ∃ n, n = n7 / 33554432 := ⟨_, rfl⟩
  rw [← h8]
  obtain ⟨n9, h9⟩ : ∃ n, n = n8 / 67108864 := ⟨_, rfl⟩
  rw [← h9]
  omega
theorem opL_good (N : Nat) : Good (carryL (opL N 10 0)) := by
  refine carry_good (opL_len _ _ _) fun i => ?_
  rcases Nat.lt_or_ge i 10 with hi | hi
  · rw [opL_gd _ _ _ _ hi, if_pos hi]
    have h1 : lenN i ≤ 26 := by unfold lenN bitsN; split <;> (try split) <;> omega
    have h2 : 2 ^ lenN i ≤ 2 ^ 26 := Nat.pow_le_pow_right (by decide) h1
    have h3 := Nat.mod_lt (N / 2 ^ offN i) (Nat.two_pow_pos (lenN i))
    omega
  · unfold gd
    rw [List.getD_eq_getElem?_getD, List.getElem?_eq_none (by rw [opL_len]; exact hi)]
    decide

end Go.Proofs.Ytmpjigghgedjbaa
