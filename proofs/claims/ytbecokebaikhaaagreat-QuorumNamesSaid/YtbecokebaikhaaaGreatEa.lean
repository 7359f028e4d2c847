/-
  E: an evaluator of the model's programs, made for the kernel. This text: tries, ropes of cells, values; what the operations compute. Nothing is proved here.
-/
import Derived.Test.YtbecokebaikhaaaGreatVc
namespace Go.E
open Go
set_option linter.unusedVariables false
universe u v

/-- A trie by natural numbers. -/
inductive Tr (α : Type u) where
  | lf
  | nd (l : Tr α) (v : Option α) (r : Tr α)
def Tr.get {α : Type u} : Tr α → Nat → Option α
  | .lf, _ => none
  | .nd l v r, n => bif Nat.beq n 0 then v else bif Nat.beq (Nat.mod n 2) 1 then l.get (Nat.div n 2) else r.get (Nat.pred (Nat.div n 2))
/-- A cell put in: what comes next is handed the new trie whole. -/
def Tr.put {α : Type u} {R : Type v} (bad : R) : Nat → Tr α → Nat → Option α → (Tr α → R) → R
  | 0, _, _, _, _ => bad
  | f + 1, .lf, n, v, k => bif Nat.beq n 0 then k (.nd .lf v .lf) else bif Nat.beq (Nat.mod n 2) 1 then Tr.put bad f .lf (Nat.div n 2) v (fun t => k (.nd t none .lf)) else Tr.put bad f .lf (Nat.pred (Nat.div n 2)) v (fun t => k (.nd .lf none t))
  | f + 1, .nd l u r, n, v, k => bif Nat.beq n 0 then k (.nd l v r) else bif Nat.beq (Nat.mod n 2) 1 then Tr.put bad f l (Nat.div n 2) v (fun t => k (.nd t u r)) else Tr.put bad f r (Nat.pred (Nat.div n 2)) v (fun t => k (.nd l u t))

/-- A number, reckoned out first (m: closed runs; with variables about it is left as it stands). -/
def natK {R : Type} (m : Bool) (n : Nat) (k : Nat → R) : R := bif m then (match n with | 0 => k 0 | x + 1 => k (Nat.succ x)) else k n
theorem natK_eq {R : Type} (m : Bool) (n : Nat) (k : Nat → R) : natK m n k = k n := by cases m <;> cases n <;> rfl
def boolK {R : Type} (m : Bool) (b : Bool) (k : Bool → R) : R := bif m then (match b with | true => k true | false => k false) else k b
theorem boolK_eq {R : Type} (m b : Bool) (k : Bool → R) : boolK m b k = k b := by cases m <;> cases b <;> rfl

/-- The value of one cell. -/
inductive A where
  | bool (b : Bool)
  | int (k : IntKind) (n : Nat)
  | str (n s : Nat)
  | ptr (b o : Nat)
  | nil
  | slice (b o n c : Nat)
  | slu (b o n z : Nat)
  | nilSlice
  | map (r : Nat)
  | nilMap
  | fn (f : Fn) (first cap : List A)
  | nilFunc
  | nilIface

/-- Cells in a row: bytes in one number, a cell again and again, two rows. -/
inductive Rope where
  | by (n s : Nat)
  | rp (n : Nat) (a : A)
  | nd (n : Nat) (l r : Rope)

inductive V where
  | at (a : A)
  | agg (r : Rope)
  | tup (vs : List V)
  | undef

def kn : IntKind → Nat
  | .i8 => 0 | .i16 => 1 | .i32 => 2 | .i64 => 3 | .u8 => 4 | .u16 => 5 | .u32 => 6 | .u64 => 7
def kEq (a b : IntKind) : Bool := Nat.beq (kn a) (kn b)
def md : IntKind → Nat
  | .i8 => 256 | .i16 => 65536 | .i32 => 4294967296 | .i64 => 18446744073709551616 | .u8 => 256 | .u16 => 65536 | .u32 => 4294967296 | .u64 => 18446744073709551616
def hf : IntKind → Nat
  | .i8 => 128 | .i16 => 32768 | .i32 => 2147483648 | .i64 => 9223372036854775808 | .u8 => 0 | .u16 => 0 | .u32 => 0 | .u64 => 0
/-- The numbers that stand for themselves are below. -/
def tp : IntKind → Nat
  | .i8 => 128 | .i16 => 32768 | .i32 => 2147483648 | .i64 => 9223372036854775808 | .u8 => 256 | .u16 => 65536 | .u32 => 4294967296 | .u64 => 18446744073709551616
def kb : IntKind → Nat
  | .i8 => 8 | .i16 => 16 | .i32 => 32 | .i64 => 64 | .u8 => 8 | .u16 => 16 | .u32 => 32 | .u64 => 64
/-- A number, so put that the order is that of the naturals. -/
def sb (k : IntKind) (a : Nat) : Nat := Nat.mod (Nat.add a (hf k)) (md k)

def two (a b : Bool) : Bool := bif a then b else false
def intB (op : BinOp) (k : IntKind) (a b : Nat) : Option A :=
  match op with
  | .add => some (.int k (Nat.mod (Nat.add a b) (md k)))
  | .sub => some (.int k (Nat.mod (Nat.add a (Nat.sub (md k) b)) (md k)))
  | .mul => some (.int k (Nat.mod (Nat.mul a b) (md k)))
  | .and => some (.int k (Nat.land a b))
  | .or => some (.int k (Nat.lor a b))
  | .xor => some (.int k (Nat.xor a b))
  | .andNot => some (.int k (Nat.land a (Nat.sub (Nat.pred (md k)) b)))
  | .quo => bif two (two (Nat.blt 0 b) (Nat.blt a (tp k))) (Nat.blt b (tp k)) then some (.int k (Nat.div a b)) else none
  | .rem => bif two (two (Nat.blt 0 b) (Nat.blt a (tp k))) (Nat.blt b (tp k)) then some (.int k (Nat.mod a b)) else none
  | .eql => some (.bool (Nat.beq a b))
  | .neq => some (.bool (not (Nat.beq a b)))
  | .lss => some (.bool (Nat.blt (sb k a) (sb k b)))
  | .leq => some (.bool (Nat.ble (sb k a) (sb k b)))
  | .gtr => some (.bool (Nat.blt (sb k b) (sb k a)))
  | .geq => some (.bool (Nat.ble (sb k b) (sb k a)))
  | _ => none
/-- Shifts: the number of places is below the half of its kind's numbers, else below 0. -/
def shB (op : BinOp) (k : IntKind) (a : Nat) (k' : IntKind) (b : Nat) : Option A :=
  bif Nat.blt b (tp k') then
    match op with
    | .shl => bif Nat.blt b (kb k) then some (.int k (Nat.mod (Nat.shiftLeft a b) (md k))) else some (.int k 0)
    | .shr => bif Nat.blt a (tp k) then (bif Nat.blt b (kb k) then some (.int k (Nat.shiftRight a b)) else some (.int k 0)) else none
    | _ => none
  else none

/-- Bytes, the first one lowest, compared like words. -/
def strLt : Nat → Nat → Nat → Nat → Nat → Bool
  | 0, _, _, _, _ => false
  | f + 1, n, s, m, t => bif Nat.beq m 0 then false else bif Nat.beq n 0 then true else
      bif Nat.blt (Nat.mod s 256) (Nat.mod t 256) then true else bif Nat.beq (Nat.mod s 256) (Nat.mod t 256) then strLt f (Nat.pred n) (Nat.shiftRight s 8) (Nat.pred m) (Nat.shiftRight t 8) else false
def sh8 (s n : Nat) : Nat := Nat.shiftLeft s (Nat.mul 8 n)
def dn8 (s n : Nat) : Nat := Nat.shiftRight s (Nat.mul 8 n)
def lo8 (s n : Nat) : Nat := Nat.mod s (Nat.pow 2 (Nat.mul 8 n))
def strB (op : BinOp) (n s m t : Nat) : Option A :=
  match op with
  | .add => bif Nat.blt (Nat.add n m) 9223372036854775807 then some (.str (Nat.add n m) (Nat.add s (sh8 t n))) else none
  | .eql => some (.bool (two (Nat.beq n m) (Nat.beq s t)))
  | .neq => some (.bool (not (two (Nat.beq n m) (Nat.beq s t))))
  | .lss => some (.bool (strLt (Nat.succ n) n s m t))
  | .geq => some (.bool (not (strLt (Nat.succ n) n s m t)))
  | .gtr => some (.bool (strLt (Nat.succ m) m t n s))
  | .leq => some (.bool (not (strLt (Nat.succ m) m t n s)))
  | _ => none

/-- The rope of one cell. -/
def ofA : A → Rope
  | .int .u8 n => .by 1 n
  | a => .rp 1 a
/-- Two rows, one after the other (n: the first one's length); short rows of bytes become one, if m. -/
def jn {R : Type} (m : Bool) (n : Nat) (x y : Rope) (k : Rope → R) : R :=
  bif Nat.beq n 0 then k y else
  match x, y with
  | .by a s, .by b t => bif two m (Nat.ble (Nat.add a b) 1024) then natK m (Nat.add a b) (fun c => natK m (Nat.add s (sh8 t a)) fun u => k (.by c u)) else k (.nd n x y)
  | _, _ => k (.nd n x y)
def Rope.get : Rope → Nat → Option A
  | .by n s, i => bif Nat.blt i n then (bif Nat.beq n 1 then some (.int .u8 s) else some (.int .u8 (lo8 (dn8 s i) 1))) else none
  | .rp n a, i => bif Nat.blt i n then some a else none
  | .nd n l r, i => bif Nat.blt i n then l.get i else r.get (Nat.sub i n)
/-- From the o-th on so many cells. -/
def Rope.sub {R : Type} (bad : R) (m : Bool) : Rope → Nat → Nat → (Rope → R) → R
  | .by n s, o, c, k => bif Nat.ble (Nat.add o c) n then (bif Nat.beq c n then k (.by n s) else natK m c fun c => natK m (lo8 (dn8 s o) c) fun u => k (.by c u)) else bad
  | .rp n a, o, c, k => bif Nat.ble (Nat.add o c) n then natK m c (fun c => k (.rp c a)) else bad
  | .nd n l r, o, c, k => bif Nat.ble (Nat.add o c) n then l.sub bad m o c k else bif Nat.ble n o then r.sub bad m (Nat.sub o n) c k else
      l.sub bad m o (Nat.sub n o) fun x => r.sub bad m 0 (Nat.sub (Nat.add o c) n) fun y => natK m (Nat.sub n o) fun p => jn m p x y k
/-- From the o-th on c cells are those of x. -/
def Rope.upd {R : Type} (bad : R) (m : Bool) : Rope → Nat → Nat → Rope → (Rope → R) → R
  | .by n s, o, c, x, k => bif Nat.ble (Nat.add o c) n then
      (bif Nat.beq c n then k x else
        natK m o fun o => natK m c fun c => natK m (lo8 s o) fun u => natK m (Nat.sub n (Nat.add o c)) fun p => natK m (dn8 s (Nat.add o c)) fun v =>
        bif Nat.beq p 0 then jn m o (.by o u) x k else jn m c x (.by p v) fun y => jn m o (.by o u) y k) else bad
  | .rp n a, o, c, x, k => bif Nat.ble (Nat.add o c) n then
      (bif Nat.beq c n then k x else
        natK m o fun o => natK m c fun c => natK m (Nat.sub n (Nat.add o c)) fun p =>
        bif Nat.beq p 0 then jn m o (.rp o a) x k else jn m c x (.rp p a) fun y => jn m o (.rp o a) y k) else bad
  | .nd n l r, o, c, x, k => bif Nat.ble (Nat.add o c) n then l.upd bad m o c x (fun l' => jn m n l' r k) else
      bif Nat.ble n o then r.upd bad m (Nat.sub o n) c x (fun r' => jn m n l r' k) else
      x.sub bad m 0 (Nat.sub n o) fun x1 => x.sub bad m (Nat.sub n o) (Nat.sub (Nat.add o c) n) fun x2 =>
      l.upd bad m o (Nat.sub n o) x1 fun l' => r.upd bad m 0 (Nat.sub (Nat.add o c) n) x2 fun r' => jn m n l' r' k
/-- How many cells. -/
def Rope.len : Rope → Nat
  | .by n _ => n
  | .rp n _ => n
  | .nd n _ r => Nat.add n r.len
/-- All of it as bytes. -/
def Rope.bytes : Rope → Option (Nat × Nat)
  | .by n s => some (n, s)
  | .rp n (.int .u8 s) => bif Nat.beq n 1 then some (1, s) else none
  | .rp _ _ => none
  | .nd _ l r => match l.bytes, r.bytes with
    | some (n, s), some (m, t) => some (Nat.add n m, Nat.add s (sh8 t n))
    | _, _ => none
def eqA : A → A → Option Bool
  | .bool a, .bool b => some (bif a then b else not b)
  | .int k a, .int k' b => bif kEq k k' then some (Nat.beq a b) else none
  | .str n s, .str m t => some (two (Nat.beq n m) (Nat.beq s t))
  | .nil, .nil => some true
  | .ptr .., .nil => some false
  | .nil, .ptr .. => some false
  | .ptr b o, .ptr c p => some (two (Nat.beq b c) (Nat.beq o p))
  | _, _ => none
/-- Are two rows of c cells the same? -/
def eqL : (f : Nat) → (c o : Nat) → Rope → Rope → Option Bool
  | 0, _, _, _, _ => none
  | f + 1, c, o, x, y => bif Nat.beq c o then some true else
    match x.get o, y.get o with
    | some a, some b => match eqA a b with
      | some true => eqL f c (Nat.succ o) x y
      | r => r
    | _, _ => none
def eqR (c : Nat) (x y : Rope) : Option Bool :=
  match x.bytes, y.bytes with
  | some (_, s), some (_, t) => some (Nat.beq s t)
  | _, _ => eqL (Nat.succ c) c 0 x y

/-- What is asked of a type. -/
inductive TK where
  | int (k : IntKind)
  | bool | str
  | sl (e : Nat)
  | ar (len e : Nat)
  | st (fs : List (Nat × Nat))
  | pt (e : Nat)
  | mp (k e : Nat)
  | fn
structure TI where
  k : TK
  size : Nat
  bytes : Nat
  agg : Bool
  zero : Rope
  /-- Can two of its values be compared cell by cell? -/
  flat : Bool

/-- A block. -/
inductive Bk where
  | cells (t : TypeId) (r : Rope)
  | map (es : List (V × V × Nat)) (clock : Nat)
abbrev H := Tr Bk
abbrev En := Tr V
structure FI where
  body : Code
  n : Nat
  res : List ResultVar

def ropeV : V → Option Rope
  | .at a => some (ofA a)
  | .agg r => some r
  | _ => none
def ropeOut {R : Type} (bad : R) (ti : TI) (r : Rope) (k : V → R) : R := bif ti.agg then k (.agg r) else match r.get 0 with | some a => k (.at a) | none => bad
def packB : List UInt8 → Nat
  | [] => 0
  | b :: r => Nat.add b.toNat (Nat.mul 256 (packB r))
def encI (k : IntKind) (z : Int) : Nat := (z % (md k : Int)).toNat
/-- A constant. -/
def cellC : Value → Option A
  | .bool b => some (.bool b)
  | .int k z => bif k.wrap z == z then some (.int k (encI k z)) else none
  | .string s => some (.str s.size (packB s.data.toList))
  | .pointer none => some .nil
  | .slice none 0 0 => some .nilSlice
  | .map none => some .nilMap
  | .nilFunc => some .nilFunc
  | .nilIface => some .nilIface
  | _ => none
def ropeC {R : Type} (bad : R) (m : Bool) : List Value → (Rope → R) → R
  | [], k => k (.by 0 0)
  | v :: r, k => match cellC v with
    | some a => ropeC bad m r fun x => jn m 1 (ofA a) x k
    | none => bad
def strA {R : Type} (m : Bool) (a : A) (k : A → R) : R :=
  match a with
  | .bool b => boolK m b fun b => k (.bool b)
  | .int kd n => natK m n fun n => k (.int kd n)
  | .str n s => natK m n fun n => natK m s fun s => k (.str n s)
  | .ptr b o => natK m b fun b => natK m o fun o => k (.ptr b o)
  | .slice b o n c => natK m b fun b => natK m o fun o => natK m n fun n => natK m c fun c => k (.slice b o n c)
  | .slu b o n z => natK m b fun b => natK m o fun o => natK m n fun n => natK m z fun z => k (.slu b o n z)
  | .map r => natK m r fun r => k (.map r)
  | a => k a
def strV {R : Type} (m : Bool) (v : V) (k : V → R) : R :=
  match v with
  | .at a => strA m a fun a => k (.at a)
  | v => k v
/-- A constant. -/
def constC {R : Type} (bad : R) (m : Bool) (v : Value) (k : V → R) : R :=
  match v with
  | .func f fs cs => match fs.toList, cs.toList with
    | [], [] => k (.at (.fn f [] []))
    | _, _ => bad
  | .agg cs => ropeC bad m cs.toList fun r => k (.agg r)
  | .tuple vs => match vs.toList with | [] => k (.tup []) | _ => bad
  | v => match cellC v with | some a => strA m a fun a => k (.at a) | none => bad
end Go.E
