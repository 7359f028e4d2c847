/-
  S, second text: closures: what an operation becomes. Nothing is proved here.
-/
import Derived.Test.YtbecokebaikhaaaGreatSa
namespace Go.S
open Go Go.E
set_option linter.unusedVariables false

inductive M2 where
  | mk (h : H) (nx : Nat)
inductive X2 where
  | mk (C : CallF Bool) (fl fd : Nat)
inductive Cl (α : Type) where
  | mk (f : α)
  | no
noncomputable def Cl.go {α β : Type} (c : Cl α) (k : α → Cl β) : Cl β := Cl.rec (motive := fun _ => Cl β) k .no c
abbrev GV := E2 → (V → Bool) → Bool
abbrev GA := E2 → (A → Bool) → Bool
abbrev GN := E2 → (Nat → Bool) → Bool
abbrev GP := E2 → (Nat → Nat → Bool) → Bool
abbrev GB := E2 → Bool → Bool → Bool
abbrev PV := E2 → V → (E2 → Bool) → Bool
abbrev OpF := X2 → E2 → M2 → (V → M2 → Bool) → Bool
abbrev RgF := X2 → E2 → M2 → (E2 → M2 → Bool) → Bool
abbrev CdF := X2 → E2 → M2 → (X → E2 → M2 → Bool) → Bool

/-! What is looked at. -/
noncomputable def nK {R : Type} (n : Nat) (k : Nat → R) : R := Nat.rec (motive := fun _ => R) (k 0) (fun x _ => k (Nat.succ x)) n
noncomputable def iF {R : Type} (b : Bool) (x y : R) : R := Bool.rec (motive := fun _ => R) y x b
noncomputable def vA (v : V) (k : A → Bool) : Bool := V.rec (motive_1 := fun _ => Bool) (motive_2 := fun _ => Bool) k (fun _ => false) (fun _ _ => false) false false (fun _ _ _ _ => false) v
/-- Any value that is there. -/
noncomputable def vV (v : V) (k : V → Bool) : Bool := V.rec (motive_1 := fun _ => Bool) (motive_2 := fun _ => Bool) (fun a => k (.at a)) (fun r => k (.agg r)) (fun l _ => k (.tup l)) false false (fun _ _ _ _ => false) v
noncomputable def vT (v : V) (k : List V → Bool) : Bool := V.rec (motive_1 := fun _ => Bool) (motive_2 := fun _ => Bool) (fun _ => false) (fun _ => false) (fun l _ => k l) false false (fun _ _ _ _ => false) v
noncomputable def vG (v : V) (k : Rope → Bool) : Bool := V.rec (motive_1 := fun _ => Bool) (motive_2 := fun _ => Bool) (fun _ => false) k (fun _ _ => false) false false (fun _ _ _ _ => false) v
noncomputable def aI (a : A) (k : IntKind → Nat → Bool) : Bool := A.rec (motive_1 := fun _ => Bool) (motive_2 := fun _ => Bool) (fun _ => false) k (fun _ _ => false) (fun _ _ => false) false (fun _ _ _ _ => false) (fun _ _ _ _ => false) false (fun _ => false) false (fun _ _ _ _ _ => false) false false false (fun _ _ _ _ => false) a
noncomputable def aB (a : A) (yes no : Bool) : Bool := A.rec (motive_1 := fun _ => Bool) (motive_2 := fun _ => Bool) (fun b => iF b yes no) (fun _ _ => false) (fun _ _ => false) (fun _ _ => false) false (fun _ _ _ _ => false) (fun _ _ _ _ => false) false (fun _ => false) false (fun _ _ _ _ _ => false) false false false (fun _ _ _ _ => false) a
noncomputable def aP (a : A) (k : Nat → Nat → Bool) : Bool := A.rec (motive_1 := fun _ => Bool) (motive_2 := fun _ => Bool) (fun _ => false) (fun _ _ => false) (fun _ _ => false) k false (fun _ _ _ _ => false) (fun _ _ _ _ => false) false (fun _ => false) false (fun _ _ _ _ _ => false) false false false (fun _ _ _ _ => false) a
/-- A slice: of known room, of unknown room, nil, a string. -/
noncomputable def aS (a : A) (k : Nat → Nat → Nat → Nat → Bool) (ku : Nat → Nat → Nat → Nat → Bool) (kn : Bool) (ks : Nat → Nat → Bool) : Bool := A.rec (motive_1 := fun _ => Bool) (motive_2 := fun _ => Bool) (fun _ => false) (fun _ _ => false) ks (fun _ _ => false) false k ku kn (fun _ => false) false (fun _ _ _ _ _ => false) false false false (fun _ _ _ _ => false) a
noncomputable def aF (a : A) (k : Fn → List A → List A → Bool) : Bool := A.rec (motive_1 := fun _ => Bool) (motive_2 := fun _ => Bool) (fun _ => false) (fun _ _ => false) (fun _ _ => false) (fun _ _ => false) false (fun _ _ _ _ => false) (fun _ _ _ _ => false) false (fun _ => false) false (fun f x y _ _ => k f x y) false false false (fun _ _ _ _ => false) a
noncomputable def tpR (k : IntKind) : Nat := IntKind.rec (motive := fun _ => Nat) 128 32768 2147483648 9223372036854775808 256 65536 4294967296 18446744073709551616 k
noncomputable def aX (a : A) (k : Nat → Bool) : Bool := aI a fun kd n => iF (Nat.ble (Nat.succ n) (tpR kd)) (k n) false
noncomputable def mH (m : M2) (k : H → Nat → Bool) : Bool := M2.rec (motive := fun _ => Bool) k m
noncomputable def xX (x : X2) (k : CallF Bool → Nat → Nat → Bool) : Bool := X2.rec (motive := fun _ => Bool) k x
noncomputable def oK {α : Type} (v : Option α) (k : α → Bool) : Bool := Option.rec (motive := fun _ => Bool) false k v
noncomputable def bC (b : Bk) (k : TypeId → Rope → Bool) : Bool := Bk.rec (motive := fun _ => Bool) k (fun _ _ => false) b
/-- This kind of numbers alone. -/
noncomputable def kC (kd : IntKind) : IntKind → Bool → Bool := IntKind.rec (motive := fun _ => IntKind → Bool → Bool)
  (fun k r => IntKind.rec (motive := fun _ => Bool) r false false false false false false false k)
  (fun k r => IntKind.rec (motive := fun _ => Bool) false r false false false false false false k)
  (fun k r => IntKind.rec (motive := fun _ => Bool) false false r false false false false false k)
  (fun k r => IntKind.rec (motive := fun _ => Bool) false false false r false false false false k)
  (fun k r => IntKind.rec (motive := fun _ => Bool) false false false false r false false false k)
  (fun k r => IntKind.rec (motive := fun _ => Bool) false false false false false r false false k)
  (fun k r => IntKind.rec (motive := fun _ => Bool) false false false false false false r false k)
  (fun k r => IntKind.rec (motive := fun _ => Bool) false false false false false false false r k) kd

/-! Tries, ropes. -/
noncomputable def tG.{u} {α : Type u} {R : Type} (bad : R) (t : Tr α) (n : Nat) (k : α → R) : R :=
  Tr.rec (motive := fun _ => Nat → (α → R) → R) (fun _ _ => bad)
    (fun _ v _ gl gr n k => Nat.rec (motive := fun _ => R) (Option.rec (motive := fun _ => R) bad k v) (fun m _ => Nat.rec (motive := fun _ => R) (gl (Nat.div m 2) k) (fun _ _ => gr (Nat.div m 2) k) (Nat.mod m 2)) n) t n k
noncomputable def tP {α : Type} (f : Nat) : Tr α → Nat → Option α → (Tr α → Bool) → Bool :=
  Nat.rec (motive := fun _ => Tr α → Nat → Option α → (Tr α → Bool) → Bool) (fun _ _ _ _ => false)
    (fun _ ih t n v k => Tr.rec (motive := fun _ => Bool)
      (Nat.rec (motive := fun _ => Bool) (k (.nd .lf v .lf)) (fun m _ => Nat.rec (motive := fun _ => Bool) (ih .lf (Nat.div m 2) v fun t => k (.nd t none .lf)) (fun _ _ => ih .lf (Nat.div m 2) v fun t => k (.nd .lf none t)) (Nat.mod m 2)) n)
      (fun l u r _ _ => Nat.rec (motive := fun _ => Bool) (k (.nd l v r)) (fun m _ => Nat.rec (motive := fun _ => Bool) (ih l (Nat.div m 2) v fun t => k (.nd t u r)) (fun _ _ => ih r (Nat.div m 2) v fun t => k (.nd l u t)) (Nat.mod m 2)) n) t) f
noncomputable def hG (h : H) (b : Nat) (k : TypeId → Rope → Bool) : Bool := tG false h b fun bk => bC bk k
noncomputable def hP (h : H) (b : Nat) (bk : Bk) (k : H → Bool) : Bool := tP 64 h b (some bk) k
noncomputable def hN (h : H) (nx : Nat) (bk : Bk) (k : H → Nat → Bool) : Bool := tP 64 h nx (some bk) fun h => nK (Nat.succ nx) fun nx => k h nx
noncomputable def hD (h : H) (b : Nat) (k : H → Bool) : Bool := tP 64 h b none k
noncomputable def rG (r : Rope) (i : Nat) (k : A → Bool) : Bool := Rope.rec (motive := fun _ => Nat → (A → Bool) → Bool)
  (fun n s i k => iF (Nat.ble (Nat.succ i) n) (iF (Nat.beq n 1) (k (.int .u8 s)) (nK (Nat.mod (Nat.shiftRight s (Nat.mul 8 i)) 256) fun c => k (.int .u8 c))) false)
  (fun n a i k => iF (Nat.ble (Nat.succ i) n) (k a) false)
  (fun n _ _ gl gr i k => iF (Nat.ble (Nat.succ i) n) (gl i k) (gr (Nat.sub i n) k)) r i k
noncomputable def rJ (n : Nat) (x y : Rope) (k : Rope → Bool) : Bool :=
  iF (Nat.beq n 0) (k y) (Rope.rec (motive := fun _ => Bool) (fun a s => Rope.rec (motive := fun _ => Bool) (fun b t => iF (Nat.ble (Nat.add a b) 1024) (nK (Nat.add a b) fun c => nK (Nat.add s (Nat.shiftLeft t (Nat.mul 8 a))) fun u => k (.by c u)) (k (.nd n x y))) (fun _ _ => k (.nd n x y)) (fun _ _ _ _ _ => k (.nd n x y)) y) (fun _ _ => k (.nd n x y)) (fun _ _ _ _ _ => k (.nd n x y)) x)
noncomputable def rS (r : Rope) (o c : Nat) (k : Rope → Bool) : Bool := Rope.rec (motive := fun _ => Nat → Nat → (Rope → Bool) → Bool)
  (fun n s o c k => iF (Nat.ble (Nat.add o c) n) (iF (Nat.beq c n) (k (.by n s)) (nK c fun c => nK (Nat.mod (Nat.shiftRight s (Nat.mul 8 o)) (Nat.pow 2 (Nat.mul 8 c))) fun u => k (.by c u))) false)
  (fun n a o c k => iF (Nat.ble (Nat.add o c) n) (nK c fun c => k (.rp c a)) false)
  (fun n _ _ sl sr o c k => iF (Nat.ble (Nat.add o c) n) (sl o c k) (iF (Nat.ble n o) (sr (Nat.sub o n) c k)
    (sl o (Nat.sub n o) fun x => sr 0 (Nat.sub (Nat.add o c) n) fun y => nK (Nat.sub n o) fun p => rJ p x y k))) r o c k
noncomputable def rU (r : Rope) (o c : Nat) (x : Rope) (k : Rope → Bool) : Bool := Rope.rec (motive := fun _ => Nat → Nat → Rope → (Rope → Bool) → Bool)
  (fun n s o c x k => iF (Nat.ble (Nat.add o c) n) (iF (Nat.beq c n) (k x)
      (nK o fun o => nK c fun c => nK (Nat.mod s (Nat.pow 2 (Nat.mul 8 o))) fun u => nK (Nat.sub n (Nat.add o c)) fun p => nK (Nat.shiftRight s (Nat.mul 8 (Nat.add o c))) fun v =>
        iF (Nat.beq p 0) (rJ o (.by o u) x k) (rJ c x (.by p v) fun y => rJ o (.by o u) y k))) false)
  (fun n a o c x k => iF (Nat.ble (Nat.add o c) n) (iF (Nat.beq c n) (k x)
      (nK o fun o => nK c fun c => nK (Nat.sub n (Nat.add o c)) fun p =>
        iF (Nat.beq p 0) (rJ o (.rp o a) x k) (rJ c x (.rp p a) fun y => rJ o (.rp o a) y k))) false)
  (fun n l r ul ur o c x k => iF (Nat.ble (Nat.add o c) n) (ul o c x fun l' => rJ n l' r k) (iF (Nat.ble n o) (ur (Nat.sub o n) c x fun r' => rJ n l r' k)
      (rS x 0 (Nat.sub n o) fun x1 => rS x (Nat.sub n o) (Nat.sub (Nat.add o c) n) fun x2 => ul o (Nat.sub n o) x1 fun l' => ur 0 (Nat.sub (Nat.add o c) n) x2 fun r' => rJ n l' r' k))) r o c x k
noncomputable def rL (r : Rope) : Nat := Rope.rec (motive := fun _ => Nat) (fun n _ => n) (fun n _ => n) (fun n _ _ _ ir => Nat.add n ir) r
noncomputable def aO (a : A) (k : Rope → Bool) : Bool := A.rec (motive_1 := fun _ => Bool) (motive_2 := fun _ => Bool) (fun _ => k (.rp 1 a))
  (fun kd n => IntKind.rec (motive := fun _ => Bool) (k (.rp 1 a)) (k (.rp 1 a)) (k (.rp 1 a)) (k (.rp 1 a)) (k (.by 1 n)) (k (.rp 1 a)) (k (.rp 1 a)) (k (.rp 1 a)) kd)
  (fun _ _ => k (.rp 1 a)) (fun _ _ => k (.rp 1 a)) (k (.rp 1 a)) (fun _ _ _ _ => k (.rp 1 a)) (fun _ _ _ _ => k (.rp 1 a)) (k (.rp 1 a)) (fun _ => k (.rp 1 a)) (k (.rp 1 a)) (fun _ _ _ _ _ => k (.rp 1 a)) (k (.rp 1 a)) (k (.rp 1 a)) false (fun _ _ _ _ => false) a
noncomputable def vR (v : V) (k : Rope → Bool) : Bool := V.rec (motive_1 := fun _ => Bool) (motive_2 := fun _ => Bool) (fun a => aO a k) k (fun _ _ => false) false false (fun _ _ _ _ => false) v

/-! Slots, operands. -/
noncomputable def gT (o : E2 → (C16 V → Bool) → Bool) (i : C16 V → (V → Bool) → Bool) : GV := fun e k => o e fun c => i c fun v => vV v k
noncomputable def pT (og : E2 → (C16 V → Bool) → Bool) (i : C16 V → V → (C16 V → Bool) → Bool) (o : E2 → C16 V → (E2 → Bool) → Bool) : PV := fun e v k => og e fun c => i c v fun c => o e c k
noncomputable def gC (v : V) : GV := fun _ k => k v
noncomputable def gA (g : GV) : GA := fun e k => g e fun v => vA v k
noncomputable def gI (g : GV) (c : IntKind → Bool → Bool) : GN := fun e k => g e fun v => vA v fun a => aI a fun kd n => c kd (k n)
noncomputable def gX (g : GV) : GN := fun e k => g e fun v => vA v fun a => aX a k
noncomputable def gP (g : GV) : GP := fun e k => g e fun v => vA v fun a => aP a k
noncomputable def gB (g : GV) : GB := fun e yes no => g e fun v => vA v fun a => aB a yes no

/-! Operations. -/
noncomputable def mvF (g : GV) : OpF := fun _ e m k => g e fun v => k v m
noncomputable def pkF (c : GB) (a b : GV) : OpF := fun _ e m k => c e (a e fun v => k v m) (b e fun v => k v m)
noncomputable def alF (t : TypeId) (z : Rope) : OpF := fun _ e m k => mH m fun h nx => hN h nx (.cells t z) fun h nx' => k (.at (.ptr nx 0)) (.mk h nx')
noncomputable def bxF (t : TypeId) (g : GV) : OpF := fun _ e m k => g e fun v => vR v fun r => mH m fun h nx => hN h nx (.cells t r) fun h nx' => k (.at (.ptr nx 0)) (.mk h nx')
abbrev FiF := E2 → Rope → (Rope → Bool) → Bool
noncomputable def fi0 : FiF := fun _ r k => k r
noncomputable def fi1 (o s : Nat) (g : GV) (nxt : FiF) : FiF := fun e r k => g e fun v => vR v fun q => iF (Nat.beq (rL q) s) (rU r o s q fun r => nxt e r k) false
noncomputable def blF (z : Rope) (f : FiF) : OpF := fun _ e m k => f e z fun r => k (.agg r) m
noncomputable def bsF (t : TypeId) (n : Nat) (z : Rope) (f : FiF) : OpF := fun _ e m k => f e z fun r => mH m fun h nx => hN h nx (.cells t r) fun h nx' => k (.at (.slice nx 0 n n)) (.mk h nx')
noncomputable def ldF (p : GP) : OpF := fun _ e m k => p e fun b o => mH m fun h _ => hG h b fun _ r => rG r o fun a => k (.at a) m
noncomputable def ldG (s : Nat) (p : GP) : OpF := fun _ e m k => p e fun b o => mH m fun h _ => hG h b fun _ r => rS r o s fun r => k (.agg r) m
noncomputable def stF (s : Nat) (p : GP) (g : GV) : OpF := fun x e m k => p e fun b o => g e fun v => vR v fun q => mH m fun h nx => hG h b fun bt r => xX x fun _ fl _ => iF (Nat.ble fl b) (iF (Nat.beq (rL q) s) (rU r o s q fun r => hP h b (.cells bt r) fun h => k .undef (.mk h nx)) false) false
noncomputable def ncF (p : GP) : OpF := fun _ e m k => p e fun b o => k (.at (.ptr b o)) m
noncomputable def arF (f : Nat → Nat → Nat) (kd : IntKind) (a b : GN) : OpF := fun _ e m k => a e fun p => b e fun q => nK (f p q) fun r => k (.at (.int kd r)) m
noncomputable def cmF (f : Nat → Nat → Bool) (a b : GN) : OpF := fun _ e m k => a e fun p => b e fun q => iF (f p q) (k (.at (.bool true)) m) (k (.at (.bool false)) m)
/-- Quotients: both numbers stand for themselves. -/
noncomputable def qrF (f : Nat → Nat → Nat) (kd : IntKind) (t : Nat) (a b : GN) : OpF := fun _ e m k => a e fun p => b e fun q => iF (Nat.ble 1 q) (iF (Nat.ble (Nat.succ p) t) (iF (Nat.ble (Nat.succ q) t) (nK (f p q) fun r => k (.at (.int kd r)) m) false) false) false
noncomputable def slF (kd : IntKind) (w z t' : Nat) (a b : GN) : OpF := fun _ e m k => a e fun p => b e fun q => iF (Nat.ble (Nat.succ q) t') (iF (Nat.ble (Nat.succ q) w) (nK (Nat.mod (Nat.shiftLeft p q) z) fun r => k (.at (.int kd r)) m) (k (.at (.int kd 0)) m)) false
noncomputable def srF (kd : IntKind) (w t t' : Nat) (a b : GN) : OpF := fun _ e m k => a e fun p => b e fun q => iF (Nat.ble (Nat.succ q) t') (iF (Nat.ble (Nat.succ p) t) (iF (Nat.ble (Nat.succ q) w) (nK (Nat.shiftRight p q) fun r => k (.at (.int kd r)) m) (k (.at (.int kd 0)) m)) false) false
noncomputable def ebF (y : Bool) (a b : GB) : OpF := fun _ e m k => a e (b e (iF y (k (.at (.bool true)) m) (k (.at (.bool false)) m)) (iF y (k (.at (.bool false)) m) (k (.at (.bool true)) m))) (b e (iF y (k (.at (.bool false)) m) (k (.at (.bool true)) m)) (iF y (k (.at (.bool true)) m) (k (.at (.bool false)) m)))
noncomputable def bnF (Γ : Ctx) (op : BinOp) (t : TypeId) (a b : GV) : OpF := fun _ e m k => a e fun v => b e fun w => binV false Γ true op t v w fun r => k r m
noncomputable def ntF (b : GB) : OpF := fun _ e m k => b e (k (.at (.bool false)) m) (k (.at (.bool true)) m)
noncomputable def unF (op : UnOp) (a : GA) : OpF := fun _ e m k => a e fun a => unA false true op a fun r => k r m
noncomputable def ciF (f : Nat → Nat) (kd : IntKind) (a : GN) : OpF := fun _ e m k => a e fun p => nK (f p) fun r => k (.at (.int kd r)) m
noncomputable def cvF (Γ : Ctx) (s d : TypeId) (a : GA) : OpF := fun x e m k => a e fun a => mH m fun h nx => xX x fun _ fl _ => convK false Γ true fl s d h nx a fun v h nx => k v (.mk h nx)
noncomputable def saF (n : Nat) (a : GA) : OpF := fun _ e m k => a e fun a => aS a (fun b o l _ => iF (Nat.ble n l) (k (.at (.ptr b o)) m) false) (fun b o l _ => iF (Nat.ble n l) (k (.at (.ptr b o)) m) false) false (fun _ _ => false)
abbrev LsA := E2 → (List A → Bool) → Bool
noncomputable def la0 : LsA := fun _ k => k []
noncomputable def la1 (g : GA) (f : LsA) : LsA := fun e k => g e fun a => f e fun l => k (a :: l)
abbrev LsV := E2 → (List V → Bool) → Bool
noncomputable def lv0 : LsV := fun _ k => k []
noncomputable def lv1 (g : GV) (f : LsV) : LsV := fun e k => g e fun a => f e fun l => k (a :: l)
noncomputable def mfF (f : Fn) (a b : LsA) : OpF := fun _ e m k => a e fun fs => b e fun cs => k (.at (.fn f fs cs)) m
noncomputable def msF (t : TypeId) (te : TI) (l c : GN) : OpF := fun _ e m k => l e fun l => c e fun c => iF (Nat.ble l c) (iF (Nat.ble c 1000000000000) (iF (Nat.ble (Nat.mul te.bytes c) 281474976710656) (mH m fun h nx => hN h nx (.cells t (zerosR c te)) fun h nx' => k (.at (.slice nx 0 l c)) (.mk h nx')) false) false) false
abbrev BdF := E2 → Nat → (Nat → Bool) → Bool
noncomputable def bd0 : BdF := fun _ d k => k d
noncomputable def bd1 (g : GN) : BdF := fun e _ k => g e k
/-- Slice expressions: of slices (z: the cells of an element), strings, arrays; mx: is there a third bound? -/
noncomputable def slcF (z : Nat) (mx : Bool) (a : GA) (lo hi bm : BdF) : OpF := fun _ e m k => a e fun a => aS a
  (fun b o n c => bm e c fun c' => hi e n fun h => lo e 0 fun l => iF (Nat.ble l h) (iF (Nat.ble h c') (iF (Nat.ble c' c) (nK (iF (Nat.beq c' l) o (Nat.add o (Nat.mul l z))) fun o => nK (Nat.sub h l) fun n => nK (Nat.sub c' l) fun c => k (.at (.slice b o n c)) m) false) false) false)
  (fun b o n z' => iF (Nat.beq z z') (iF mx
      (bm e 0 fun c' => hi e 0 fun h => lo e 0 fun l => iF (Nat.ble l h) (iF (Nat.ble h c') (iF (Nat.ble c' n) (nK (iF (Nat.beq c' l) o (Nat.add o (Nat.mul l z'))) fun o => nK (Nat.sub h l) fun n => nK (Nat.sub c' l) fun c => k (.at (.slice b o n c)) m) false) false) false)
      (hi e n fun h => lo e 0 fun l => iF (Nat.ble l h) (iF (Nat.ble h n) (nK (Nat.add o (Nat.mul l z')) fun o => nK (Nat.sub h l) fun n => k (.at (.slu b o n z')) m) false) false)) false)
  (lo e 0 fun l => hi e 0 fun h => bm e 0 fun c => iF (Nat.beq l 0) (iF (Nat.beq h 0) (iF (Nat.beq c 0) (k (.at .nilSlice) m) false) false) false)
  (fun _ _ => false)
noncomputable def slsF (a : GA) (lo hi : BdF) : OpF := fun _ e m k => a e fun a => aS a (fun _ _ _ _ => false) (fun _ _ _ _ => false) false
  (fun n s => lo e 0 fun l => hi e n fun h => iF (Nat.ble l h) (iF (Nat.ble h n) (nK (Nat.sub h l) fun c => nK (Nat.mod (Nat.shiftRight s (Nat.mul 8 l)) (Nat.pow 2 (Nat.mul 8 (Nat.sub h l)))) fun u => k (.at (.str c u)) m) false) false)
noncomputable def slaF (n z : Nat) (p : GP) (lo hi bm : BdF) : OpF := fun _ e m k => p e fun b o => bm e n fun c' => hi e n fun h => lo e 0 fun l => iF (Nat.ble l h) (iF (Nat.ble h c') (iF (Nat.ble c' n) (nK (iF (Nat.beq c' l) o (Nat.add o (Nat.mul l z))) fun o => nK (Nat.sub h l) fun n => nK (Nat.sub c' l) fun c => k (.at (.slice b o n c)) m) false) false) false
noncomputable def faF (o : Nat) (p : GP) : OpF := fun _ e m k => p e fun b q => nK (Nat.add q o) fun q => k (.at (.ptr b q)) m
noncomputable def fdF (o : Nat) (g : GV) : OpF := fun _ e m k => g e fun v => vG v fun r => rG r o fun a => k (.at a) m
noncomputable def fdG (o s : Nat) (g : GV) : OpF := fun _ e m k => g e fun v => vG v fun r => rS r o s fun r => k (.agg r) m
noncomputable def ixF (z : Nat) (a : GA) (i : GN) : OpF := fun _ e m k => a e fun a => i e fun i => aS a
  (fun b o n _ => iF (Nat.ble (Nat.succ i) n) (nK (Nat.add o (Nat.mul i z)) fun o => k (.at (.ptr b o)) m) false)
  (fun b o n z' => iF (Nat.beq z z') (iF (Nat.ble (Nat.succ i) n) (nK (Nat.add o (Nat.mul i z')) fun o => k (.at (.ptr b o)) m) false) false) false (fun _ _ => false)
noncomputable def ixA (n z : Nat) (p : GP) (i : GN) : OpF := fun _ e m k => p e fun b o => i e fun i => iF (Nat.ble (Nat.succ i) n) (nK (Nat.add o (Nat.mul i z)) fun o => k (.at (.ptr b o)) m) false
noncomputable def ivF (n z : Nat) (g : GV) (i : GN) : OpF := fun _ e m k => g e fun v => i e fun i => vG v fun r => iF (Nat.ble (Nat.succ i) n) (rG r (Nat.mul i z) fun a => k (.at a) m) false
noncomputable def ivG (n z : Nat) (g : GV) (i : GN) : OpF := fun _ e m k => g e fun v => i e fun i => vG v fun r => iF (Nat.ble (Nat.succ i) n) (rS r (Nat.mul i z) z fun r => k (.agg r) m) false
noncomputable def ivS (a : GA) (i : GN) : OpF := fun _ e m k => a e fun a => i e fun i => aS a (fun _ _ _ _ => false) (fun _ _ _ _ => false) false fun n s => iF (Nat.ble (Nat.succ i) n) (nK (Nat.mod (Nat.shiftRight s (Nat.mul 8 i)) 256) fun c => k (.at (.int .u8 c)) m) false
abbrev NthF := List V → (V → Bool) → Bool
noncomputable def nt0 : NthF := fun l k => List.rec (motive := fun _ => Bool) false (fun v _ _ => vV v k) l
noncomputable def nt1 (f : NthF) : NthF := fun l k => List.rec (motive := fun _ => Bool) false (fun _ t _ => f t k) l
noncomputable def exF (f : NthF) (g : GV) : OpF := fun _ e m k => g e fun v => vT v fun l => f l fun v => k v m
noncomputable def lnF (s : Bool) (a : GA) : OpF := fun _ e m k => a e fun a => aS a (fun _ _ n _ => iF s (iF (Nat.ble (Nat.succ n) 9223372036854775808) (k (.at (.int .i64 n)) m) false) false) (fun _ _ n _ => iF s (iF (Nat.ble (Nat.succ n) 9223372036854775808) (k (.at (.int .i64 n)) m) false) false) (iF s (k (.at (.int .i64 0)) m) false) (fun n _ => iF s false (iF (Nat.ble (Nat.succ n) 9223372036854775808) (k (.at (.int .i64 n)) m) false))
/-- The cells of a slice or a string: the first n of so many cells each. -/
noncomputable def srcR (h : H) (a : A) (z n : Nat) (k : Rope → Bool) : Bool := aS a
  (fun b o l _ => iF (Nat.ble n l) (hG h b fun _ r => rS r o (Nat.mul n z) k) false)
  (fun b o l z' => iF (Nat.beq z z') (iF (Nat.ble n l) (hG h b fun _ r => rS r o (Nat.mul n z) k) false) false)
  (iF (Nat.beq n 0) (k (.by 0 0)) false)
  (fun l s => iF (Nat.beq z 1) (iF (Nat.ble n l) (nK (Nat.mod s (Nat.pow 2 (Nat.mul 8 n))) fun s => k (.by n s)) false) false)
noncomputable def fitR (z by' n : Nat) (k : Bool) : Bool := iF (Nat.ble 1 z) (iF (Nat.ble n 1000000000000) (iF (Nat.ble (Nat.mul n by') 140737488355328) k false) false) false
noncomputable def appR (fl fd : Nat) (h : H) (nx : Nat) (e : TypeId) (z by' : Nat) (s : A) (n : Nat) (q : Rope) (k : V → M2 → Bool) : Bool := aS s
  (fun b o l c => iF (Nat.beq n 0) (k (.at (.slice b o l c)) (.mk h nx)) (nK (Nat.add l n) fun l' => iF (Nat.ble l' c)
      (hG h b fun bt r => iF (Nat.ble fl b) (rU r (Nat.add o (Nat.mul l z)) (Nat.mul n z) q fun r => hP h b (.cells bt r) fun h => k (.at (.slice b o l' c)) (.mk h nx)) false)
      (fitR z by' l' (iF (Nat.beq l 0) (hN h nx (.cells e q) fun h nx' => k (.at (.slu nx 0 l' z)) (.mk h nx'))
        (hG h b fun _ r => rS r o (Nat.mul l z) fun x => nK (Nat.mul l z) fun p => rJ p x q fun r => hN h nx (.cells e r) fun h nx' => k (.at (.slu nx 0 l' z)) (.mk h nx'))))))
  (fun b o l z' => iF (Nat.beq n 0) (k (.at (.slu b o l z')) (.mk h nx)) (iF (Nat.beq z z') (iF (Nat.ble fd b) (nK (Nat.add l n) fun l' => fitR z by' l' (
      hG h b fun bt r => iF (Nat.beq bt e) (rS r o (Nat.mul l z) fun x => nK (Nat.mul l z) fun p => rJ p x q fun r => hD h b fun h => hN h nx (.cells e r) fun h nx' => k (.at (.slu nx 0 l' z)) (.mk h nx')) false)) false) false))
  (iF (Nat.beq n 0) (k (.at .nilSlice) (.mk h nx)) (fitR z by' n (hN h nx (.cells e q) fun h nx' => k (.at (.slu nx 0 n z)) (.mk h nx'))))
  (fun _ _ => false)
noncomputable def lnR (a : A) (k : Nat → Bool) : Bool := aS a (fun _ _ n _ => k n) (fun _ _ n _ => k n) (k 0) (fun n _ => k n)
noncomputable def apF (e : TypeId) (z by' : Nat) (s y : GA) : OpF := fun x ev m k => s ev fun s => y ev fun y => mH m fun h nx => xX x fun _ fl fd => lnR y fun n => srcR h y z n fun q => appR fl fd h nx e z by' s n q k
noncomputable def cpF (z : Nat) (d y : GA) : OpF := fun x ev m k => d ev fun d => y ev fun y => mH m fun h nx => xX x fun _ fl _ => lnR d fun p => lnR y fun n => nK (iF (Nat.ble n p) n p) fun n => iF (Nat.ble (Nat.succ n) 9223372036854775808) (srcR h y z n fun q =>
  aS d (fun b o _ _ => iF (Nat.beq n 0) (k (.at (.int .i64 n)) m) (iF (Nat.ble fl b) (hG h b fun bt r => rU r o (Nat.mul n z) q fun r => hP h b (.cells bt r) fun h => k (.at (.int .i64 n)) (.mk h nx)) false))
    (fun b o _ _ => iF (Nat.beq n 0) (k (.at (.int .i64 n)) m) (iF (Nat.ble fl b) (hG h b fun bt r => rU r o (Nat.mul n z) q fun r => hP h b (.cells bt r) fun h => k (.at (.int .i64 n)) (.mk h nx)) false))
    (iF (Nat.beq n 0) (k (.at (.int .i64 n)) m) false) (fun _ _ => false)) false
/-- Go's own functions, as E has them. -/
noncomputable def biF (Γ : Ctx) (b : Builtin) (ts : List TypeId) (vs : LsV) : OpF := fun x e m k => vs e fun vs => mH m fun h nx => xX x fun _ fl fd => builtinK false Γ true fl fd b ts vs h nx fun v h nx => k v (.mk h nx)
/-- A call of a function that is named. -/
noncomputable def caF (g : FuncId) (vs : LsV) : OpF := fun x e m k => vs e fun vs => mH m fun h nx => xX x fun C fl fd => C fl fd g vs h nx fun v h nx => k v (.mk h nx)
noncomputable def fnF (f : Fn) (k : FuncId → Bool) : Bool := match f with | .func g => k g | _ => false
noncomputable def clF (a : GA) (vs : LsV) : OpF := fun x e m k => a e fun f => aF f fun f fs cs => fnF f fun g => vs e fun vs => mH m fun h nx => xX x fun C fl fd => C fl fd g (atL fs ++ (vs ++ atL cs)) h nx fun v h nx => k v (.mk h nx)
/-! Maps, as E has them. -/
noncomputable def mmF : OpF := fun _ e m k => mH m fun h nx => hN h nx (.map [] 0) fun h nx' => k (.at (.map nx)) (.mk h nx')
noncomputable def mmX (g : GN) : OpF := fun _ e m k => g e fun _ => mH m fun h nx => hN h nx (.map [] 0) fun h nx' => k (.at (.map nx)) (.mk h nx')
noncomputable def lkF (Γ : Ctx) (t : TypeId) (ok : Bool) (a : GA) (g : GV) : OpF := fun _ e m k => a e fun a => g e fun key => mH m fun h nx => lookK false Γ true h t a key ok fun v => k v m
noncomputable def muF (Γ : Ctx) (t : TypeId) (a : GA) (g v : GV) : OpF := fun x e m k => a e fun a => g e fun key => v e fun v => mH m fun h nx => xX x fun _ fl _ => mapSetK false Γ true fl h t a key v fun h => k .undef (.mk h nx)
noncomputable def meF (Γ : Ctx) (t : TypeId) (a : GA) (g : GV) : OpF := fun x e m k => a e fun a => g e fun key => mH m fun h nx => xX x fun _ fl _ => mapEntryK false Γ true fl h t a key fun v h => k v (.mk h nx)
noncomputable def esF (a n : GA) (v : GV) : OpF := fun x e m k => a e fun a => n e fun n => v e fun v => mH m fun h nx => xX x fun _ fl _ => entryStoreK false fl h a n v fun h => k .undef (.mk h nx)
end Go.S
