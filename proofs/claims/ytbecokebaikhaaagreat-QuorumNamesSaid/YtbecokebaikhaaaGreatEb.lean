/-
  E, second text: the evaluator: operations, regions, code, calls. Nothing is proved here.
-/
import Derived.Test.YtbecokebaikhaaaGreatEa
namespace Go.E
open Go
set_option linter.unusedVariables false

/-- What a contract says: how a call of a function comes out. -/
structure Con where
  run : {R : Type} → R → List V → H → Nat → Nat → Nat → (V → H → Nat → R) → R
structure Ctx where
  ty : Tr TI
  fn : Tr FI
  con : Tr Con

section
variable {R : Type}

def tyK (bad : R) (Γ : Ctx) (t : TypeId) (k : TI → R) : R := match Γ.ty.get t with | some ti => k ti | none => bad
def eO (bad : R) (m : Bool) (env : En) (x : Operand) (k : V → R) : R :=
  match x with
  | .tmp t => match env.get t with | some v => k v | none => bad
  | .const v => constC bad m v k
  | .func f => k (.at (.fn (.func f) [] []))
  | .global _ => bad
def atK (bad : R) (v : V) (k : A → R) : R := match v with | .at a => k a | _ => bad
def eA (bad : R) (m : Bool) (env : En) (x : Operand) (k : A → R) : R := eO bad m env x fun v => atK bad v k
def eOs (bad : R) (m : Bool) (env : En) : List Operand → (List V → R) → R
  | [], k => k []
  | x :: xs, k => eO bad m env x fun v => eOs bad m env xs fun vs => k (v :: vs)
def eAs (bad : R) (m : Bool) (env : En) : List Operand → (List A → R) → R
  | [], k => k []
  | x :: xs, k => eA bad m env x fun v => eAs bad m env xs fun vs => k (v :: vs)
def ropeK (bad : R) (v : V) (k : Rope → R) : R := match v with | .at a => k (ofA a) | .agg r => k r | _ => bad
def ptrK (bad : R) (a : A) (k : Nat → Nat → R) : R := match a with | .ptr b o => k b o | _ => bad
/-- A number that is not below 0. -/
def idxK (bad : R) (a : A) (k : Nat → R) : R := match a with | .int kd n => bif Nat.blt n (tp kd) then k n else bad | _ => bad
def cellsK (bad : R) (h : H) (b : Nat) (k : TypeId → Rope → R) : R := match h.get b with | some (.cells t r) => k t r | _ => bad
def mapK (bad : R) (h : H) (b : Nat) (k : List (V × V × Nat) → Nat → R) : R := match h.get b with | some (.map es c) => k es c | _ => bad
def okK (bad : R) (b : Bool) (k : R) : R := bif b then k else bad
def newK (bad : R) (m : Bool) (h : H) (nx : Nat) (bk : Bk) (k : H → Nat → R) : R := Tr.put bad 64 h nx (some bk) fun h => natK m (Nat.succ nx) fun nx => k h nx
def setK (bad : R) (h : H) (b : Nat) (bk : Bk) (k : H → R) : R := Tr.put bad 64 h b (some bk) k
def delK (bad : R) (h : H) (b : Nat) (k : H → R) : R := Tr.put bad 64 h b none k

/-- Are two cells of a type the same? (of pointers: in one block, of a type that has cells) -/
def eqT : TK → A → A → Option Bool
  | .bool, .bool a, .bool b => some (bif a then b else not b)
  | .sl _, .nilSlice, .nilSlice => some true
  | .sl _, .slice .., .nilSlice => some false
  | .sl _, .slu .., .nilSlice => some false
  | .sl _, .nilSlice, .slice .. => some false
  | .sl _, .nilSlice, .slu .. => some false
  | .mp .., .nilMap, .nilMap => some true
  | .mp .., .map _, .nilMap => some false
  | .mp .., .nilMap, .map _ => some false
  | .fn, .nilFunc, .nilFunc => some true
  | .fn, .fn .., .nilFunc => some false
  | .fn, .nilFunc, .fn .. => some false
  | .pt _, .nil, .nil => some true
  | .pt _, .nil, .ptr .. => some false
  | .pt _, .ptr .., .nil => some false
  | .pt _, .ptr b o, .ptr c p => bif Nat.beq b c then some (Nat.beq o p) else none
  | _, _, _ => none
def sizedK (bad : R) (Γ : Ctx) (tk : TK) (k : R) : R := match tk with | .pt e => tyK bad Γ e fun te => okK bad (Nat.blt 0 te.size) k | _ => k
def eqK (bad : R) (Γ : Ctx) (m : Bool) (op : BinOp) (t : TypeId) (x y : A) (k : V → R) : R :=
  tyK bad Γ t fun ti => sizedK bad Γ ti.k (match op with
    | .eql => match eqT ti.k x y with | some r => boolK m r fun r => k (.at (.bool r)) | none => bad
    | .neq => match eqT ti.k x y with | some r => boolK m (not r) fun r => k (.at (.bool r)) | none => bad
    | _ => bad)
def shift? : BinOp → Bool
  | .shl | .shr => true
  | _ => false
def outK1 (bad : R) (m : Bool) (r : Option A) (k : V → R) : R := match r with | some r => strA m r fun r => k (.at r) | none => bad
def binA (bad : R) (Γ : Ctx) (m : Bool) (op : BinOp) (t : TypeId) (x y : A) (k : V → R) : R :=
  match x, y with
  | .int ka a, .int kb b => bif shift? op then outK1 bad m (shB op ka a kb b) k else bif kEq ka kb then outK1 bad m (intB op ka a b) k else bad
  | .str n s, .str p t => outK1 bad m (strB op n s p t) k
  | x, y => eqK bad Γ m op t x y k
def partK (bad : R) (m : Bool) (ti : TI) (r : Rope) (o : Nat) (k : V → R) : R :=
  bif ti.agg then r.sub bad m o ti.size fun r => k (.agg r) else match r.get o with | some a => strA m a fun a => k (.at a) | none => bad
/-- Two atoms of a type, one of numbers and strings too. -/
def leafT : TK → A → A → Option Bool
  | .int _, .int k a, .int k' b => bif kEq k k' then some (Nat.beq a b) else none
  | .str, .str n s, .str m t => some (two (Nat.beq n m) (Nat.beq s t))
  | .bool, a, b => eqT .bool a b
  | .pt e, a, b => eqT (.pt e) a b
  | _, _, _ => none
def isIntK : TK → Bool
  | .int _ => true
  | _ => false
def bytesEq (n : Nat) (r s : Rope) : Option Bool := match r.bytes, s.bytes with
  | some (a, p), some (b, q) => bif two (Nat.beq a n) (Nat.beq b n) then some (Nat.beq p q) else none
  | _, _ => none
def eqFsK (bad : R) (Γ : Ctx) (m : Bool) (rc : TypeId → V → V → (Bool → R) → R) (r s : Rope) : List (Nat × Nat) → (Bool → R) → R
  | [], k => k true
  | (o, t) :: fs, k => tyK bad Γ t fun ti => partK bad m ti r o fun v => partK bad m ti s o fun w => rc t v w fun b => bif b then eqFsK bad Γ m rc r s fs k else k false
def eqArK (bad : R) (m : Bool) (rc : TypeId → V → V → (Bool → R) → R) (r s : Rope) (e : TypeId) (te : TI) : Nat → Nat → (Bool → R) → R
  | 0, _, k => k true
  | n + 1, i, k => partK bad m te r (Nat.mul i te.size) fun v => partK bad m te s (Nat.mul i te.size) fun w => rc e v w fun b => bif b then eqArK bad m rc r s e te n (Nat.succ i) k else k false
/-- Are two values the same? so deep at the most -/
def eqV (bad : R) (Γ : Ctx) (m : Bool) : Nat → TypeId → V → V → (Bool → R) → R
  | 0, _, _, _, _ => bad
  | f + 1, t, x, y, k => tyK bad Γ t fun ti => match x with
    | .at a => atK bad y fun b => sizedK bad Γ ti.k (match leafT ti.k a b with | some r => k r | none => bad)
    | .agg r => (match y with
      | .agg s => (match ti.k with
        | .st fs => okK bad ti.flat (eqFsK bad Γ m (eqV bad Γ m f) r s fs k)
        | .ar n e => tyK bad Γ e fun te => (match (bif isIntK te.k then bytesEq n r s else none) with
          | some b => k b
          | none => eqArK bad m (eqV bad Γ m f) r s e te n 0 k)
        | _ => bad)
      | _ => bad)
    | _ => bad
def binV (bad : R) (Γ : Ctx) (m : Bool) (op : BinOp) (t : TypeId) (x y : V) (k : V → R) : R :=
  match x with
  | .at a => atK bad y fun b => binA bad Γ m op t a b k
  | .agg r => match y with
    | .agg s => tyK bad Γ t fun ti => okK bad ti.flat (match op with
      | .eql => eqV bad Γ m 100 t (.agg r) (.agg s) fun b => boolK m b fun b => k (.at (.bool b))
      | .neq => eqV bad Γ m 100 t (.agg r) (.agg s) fun b => boolK m (not b) fun b => k (.at (.bool b))
      | _ => bad)
    | _ => bad
  | _ => bad
def unA (bad : R) (m : Bool) (op : UnOp) (x : A) (k : V → R) : R :=
  match op, x with
  | .not, .bool b => boolK m (not b) fun b => k (.at (.bool b))
  | .neg, .int kd a => natK m (Nat.mod (Nat.sub (md kd) a) (md kd)) fun n => k (.at (.int kd n))
  | .xor, .int kd a => natK m (Nat.sub (Nat.pred (md kd)) a) fun n => k (.at (.int kd n))
  | _, _ => bad
def cvI (a b : IntKind) (n : Nat) : Nat := bif Nat.blt n (tp a) then Nat.mod n (md b) else bif Nat.ble (md b) (md a) then Nat.mod n (md b) else Nat.add n (Nat.sub (md b) (md a))
/-- Bounds of a slice expression. -/
def bndK (bad : R) (m : Bool) (env : En) (x : Option Operand) (d : Nat) (k : Nat → R) : R := match x with | none => k d | some x => eA bad m env x fun a => idxK bad a k
def elemK (bad : R) (Γ : Ctx) (tk : TK) (k : TI → R) : R := match tk with | .sl e => tyK bad Γ e k | _ => bad
def sliceK (bad : R) (Γ : Ctx) (m : Bool) (env : En) (t : TypeId) (x : Operand) (lo hi mx : Option Operand) (k : V → R) : R :=
  okK bad (bif hi.isNone then mx.isNone else true) (
  tyK bad Γ t fun ti => eA bad m env x fun a =>
  match a with
  | .str n s => match ti.k with
    | .str => bndK bad m env lo 0 fun l => bndK bad m env hi n fun h => okK bad (two mx.isNone (two (Nat.ble l h) (Nat.ble h n))) (strA m (.str (Nat.sub h l) (lo8 (dn8 s l) (Nat.sub h l))) fun a => k (.at a))
    | _ => bad
  | .nilSlice => elemK bad Γ ti.k fun te => bndK bad m env lo 0 fun l => bndK bad m env hi 0 fun h => bndK bad m env mx 0 fun c => okK bad (two (Nat.beq l 0) (two (Nat.beq h 0) (Nat.beq c 0))) (k (.at .nilSlice))
  | .slice b o n c => elemK bad Γ ti.k fun te => bndK bad m env mx c fun c' => bndK bad m env hi n fun h => bndK bad m env lo 0 fun l =>
        okK bad (two (two (Nat.ble l h) (Nat.ble h c')) (Nat.ble c' c)) (strA m (.slice b (bif Nat.beq c' l then o else Nat.add o (Nat.mul l te.size)) (Nat.sub h l) (Nat.sub c' l)) fun a => k (.at a))
  | .slu b o n z => elemK bad Γ ti.k fun te => okK bad (Nat.beq te.size z) (match mx with
    | none => bndK bad m env hi n fun h => bndK bad m env lo 0 fun l => okK bad (two (Nat.ble l h) (Nat.ble h n)) (strA m (.slu b (Nat.add o (Nat.mul l z)) (Nat.sub h l) z) fun a => k (.at a))
    | some _ => bndK bad m env mx 0 fun c' => bndK bad m env hi 0 fun h => bndK bad m env lo 0 fun l =>
        okK bad (two (two (Nat.ble l h) (Nat.ble h c')) (Nat.ble c' n)) (strA m (.slice b (bif Nat.beq c' l then o else Nat.add o (Nat.mul l z)) (Nat.sub h l) (Nat.sub c' l)) fun a => k (.at a)))
  | .ptr b o => match ti.k with
    | .ar n e => tyK bad Γ e fun te => bndK bad m env mx n fun c' => bndK bad m env hi n fun h => bndK bad m env lo 0 fun l =>
        okK bad (two (two (two (Nat.ble l h) (Nat.ble h c')) (Nat.ble c' n)) (Nat.ble n 1000000000000)) (strA m (.slice b (bif Nat.beq c' l then o else Nat.add o (Nat.mul l te.size)) (Nat.sub h l) (Nat.sub c' l)) fun a => k (.at a))
    | _ => bad
  | _ => bad)
def indexK (bad : R) (Γ : Ctx) (m : Bool) (t : TypeId) (x i : A) (k : V → R) : R :=
  tyK bad Γ t fun ti => idxK bad i fun i =>
  match x with
  | .slice b o n _ => elemK bad Γ ti.k fun te => okK bad (Nat.blt i n) (strA m (.ptr b (Nat.add o (Nat.mul i te.size))) fun a => k (.at a))
  | .slu b o n z => elemK bad Γ ti.k fun te => okK bad (two (Nat.beq te.size z) (Nat.blt i n)) (strA m (.ptr b (Nat.add o (Nat.mul i z))) fun a => k (.at a))
  | .ptr b o => match ti.k with
    | .ar n e => tyK bad Γ e fun te => okK bad (Nat.blt i n) (strA m (.ptr b (Nat.add o (Nat.mul i te.size))) fun a => k (.at a))
    | _ => bad
  | _ => bad
def indexV (bad : R) (Γ : Ctx) (m : Bool) (t : TypeId) (x : V) (i : A) (k : V → R) : R :=
  tyK bad Γ t fun ti => idxK bad i fun i =>
  match x with
  | .agg r => match ti.k with | .ar n e => tyK bad Γ e fun te => okK bad (Nat.blt i n) (partK bad m te r (Nat.mul i te.size) k) | _ => bad
  | .at (.str n s) => match ti.k with | .str => okK bad (Nat.blt i n) (natK m (lo8 (dn8 s i) 1) fun b => k (.at (.int .u8 b))) | _ => bad
  | _ => bad
def fieldOf (bad : R) (Γ : Ctx) (s : TypeId) (f : Nat) (k : Nat → Nat → R) : R :=
  tyK bad Γ s fun ti => match ti.k with | .st fs => (match fs[f]? with | some (o, t) => k o t | none => bad) | _ => bad
/-- A literal's parts put in. -/
def fillK (bad : R) (Γ : Ctx) (m : Bool) (env : En) (pl : Nat → (Nat → Nat → R) → R) : List (Nat × Operand) → Rope → (Rope → R) → R
  | [], r, k => k r
  | (i, x) :: ps, r, k => pl i fun o t => tyK bad Γ t fun ti => eO bad m env x fun v => ropeK bad v fun q => okK bad (Nat.beq q.len ti.size) (r.upd bad m o ti.size q fun r => fillK bad Γ m env pl ps r k)
def replR : Nat → Nat → Rope → Rope
  | 0, _, _ => .by 0 0
  | n + 1, z, r => match n with | 0 => r | _ => .nd z r (replR n z r)
/-- So many times the zero value. -/
def zerosR (n : Nat) (te : TI) : Rope := match te.zero with
  | .by z s => bif Nat.beq s 0 then .by (Nat.mul n z) 0 else replR n te.size te.zero
  | .rp z a => bif Nat.beq z 1 then .rp n a else .rp (Nat.mul n z) a
  | r => replR n te.size r
def buildK (bad : R) (Γ : Ctx) (m : Bool) (env : En) (t : TypeId) (ps : List (Nat × Operand)) (k : V → R) : R :=
  tyK bad Γ t fun ti => match ti.k with
  | .st fs => fillK bad Γ m env (fun i k => match fs[i]? with | some (o, t) => k o t | none => bad) ps ti.zero fun r => k (.agg r)
  | .ar _ e => tyK bad Γ e fun te => fillK bad Γ m env (fun i k => k (Nat.mul i te.size) e) ps ti.zero fun r => k (.agg r)
  | _ => bad
/-- A value found at a place. -/
def loadK (bad : R) (Γ : Ctx) (m : Bool) (h : H) (t : TypeId) (b o : Nat) (k : V → R) : R := tyK bad Γ t fun ti => cellsK bad h b fun _ r => partK bad m ti r o k
def storeK (bad : R) (Γ : Ctx) (m : Bool) (fl : Nat) (h : H) (t : TypeId) (b o : Nat) (v : V) (k : H → R) : R :=
  tyK bad Γ t fun ti => ropeK bad v fun q => cellsK bad h b fun bt r => okK bad (two (Nat.ble fl b) (Nat.beq q.len ti.size)) (r.upd bad m o ti.size q fun r => setK bad h b (.cells bt r) k)
/-- The cells of a slice or a string: the first n. -/
def srcK (bad : R) (m : Bool) (h : H) (a : A) (z n : Nat) (k : Rope → R) : R :=
  match a with
  | .slice b o l _ => okK bad (Nat.ble n l) (cellsK bad h b fun _ r => r.sub bad m o (Nat.mul n z) k)
  | .slu b o l z' => okK bad (two (Nat.beq z z') (Nat.ble n l)) (cellsK bad h b fun _ r => r.sub bad m o (Nat.mul n z) k)
  | .nilSlice => okK bad (Nat.beq n 0) (k (.by 0 0))
  | .str l s => okK bad (two (Nat.beq z 1) (Nat.ble n l)) (natK m (lo8 s n) fun s => k (.by n s))
  | _ => bad
def lenA (bad : R) (a : A) (k : Nat → R) : R :=
  match a with
  | .slice _ _ n _ => k n | .slu _ _ n _ => k n | .nilSlice => k 0 | .str n _ => k n | _ => bad
def catK (bad : R) (m : Bool) (n : Nat) (x y : Rope) (p : Nat) (k : Rope → R) : R := bif Nat.beq p 0 then k x else jn m n x y k
def fitsB (te : TI) (n : Nat) : Bool := two (Nat.blt 0 te.size) (two (Nat.ble n 1000000000000) (Nat.ble (Nat.mul n te.bytes) 140737488355328))
/-- append(s, x...): q are the cells put behind, n pieces. -/
def appK (bad : R) (m : Bool) (fl fd : Nat) (h : H) (nx : Nat) (e : TypeId) (te : TI) (s : A) (n : Nat) (q : Rope) (k : V → H → Nat → R) : R :=
  match s with
  | .nilSlice => bif Nat.beq n 0 then k (.at .nilSlice) h nx else okK bad (fitsB te n) (newK bad m h nx (.cells e q) fun h nx' => k (.at (.slu nx 0 n te.size)) h nx')
  | .slice b o l c => bif Nat.beq n 0 then k (.at (.slice b o l c)) h nx else
      natK m (Nat.add l n) fun l' => bif Nat.ble l' c then
        cellsK bad h b fun bt r => okK bad (Nat.ble fl b) (r.upd bad m (Nat.add o (Nat.mul l te.size)) (Nat.mul n te.size) q fun r => setK bad h b (.cells bt r) fun h => k (.at (.slice b o l' c)) h nx)
      else okK bad (fitsB te l') (bif Nat.beq l 0 then newK bad m h nx (.cells e q) fun h nx' => k (.at (.slu nx 0 l' te.size)) h nx' else
        cellsK bad h b fun _ r => r.sub bad m o (Nat.mul l te.size) fun x => natK m (Nat.mul l te.size) fun p => jn m p x q fun r => newK bad m h nx (.cells e r) fun h nx' => k (.at (.slu nx 0 l' te.size)) h nx')
  | .slu b o l z' => bif Nat.beq n 0 then k (.at (.slu b o l z')) h nx else okK bad (two (Nat.beq te.size z') (Nat.ble fd b)) (natK m (Nat.add l n) fun l' => okK bad (fitsB te l') (
      cellsK bad h b fun bt r => okK bad (Nat.beq bt e) (r.sub bad m o (Nat.mul l te.size) fun x => natK m (Nat.mul l te.size) fun p => jn m p x q fun r => delK bad h b fun h => newK bad m h nx (.cells e r) fun h nx' => k (.at (.slu nx 0 l' te.size)) h nx')))
  | _ => bad
/-! Maps. -/
def chkFs (bad : R) (Γ : Ctx) (m : Bool) (rc : TypeId → V → R → R) (r : Rope) : List (Nat × Nat) → R → R
  | [], k => k
  | (o, t) :: fs, k => tyK bad Γ t fun ti => partK bad m ti r o fun v => rc t v (chkFs bad Γ m rc r fs k)
def chkAr (bad : R) (m : Bool) (rc : TypeId → V → R → R) (r : Rope) (e : TypeId) (te : TI) : Nat → Nat → R → R
  | 0, _, k => k
  | n + 1, i, k => partK bad m te r (Nat.mul i te.size) fun v => rc e v (chkAr bad m rc r e te n (Nat.succ i) k)
def atomK : TK → Bool
  | .int _ => true
  | .bool => true
  | .str => true
  | .pt _ => true
  | _ => false
/-- May it be a key? -/
def chkV (bad : R) (Γ : Ctx) (m : Bool) : Nat → TypeId → V → R → R
  | 0, _, _, _ => bad
  | f + 1, t, x, k => tyK bad Γ t fun ti => match x with
    | .at _ => okK bad (atomK ti.k) k
    | .agg r => (match ti.k with
      | .st fs => okK bad ti.flat (chkFs bad Γ m (chkV bad Γ m f) r fs k)
      | .ar n e => tyK bad Γ e fun te => bif isIntK te.k then okK bad (Nat.beq r.len n) k else chkAr bad m (chkV bad Γ m f) r e te n 0 k
      | _ => bad)
    | _ => bad
/-- The first entry of a key: where, its key, its value, its stamp. -/
def findK (bad : R) (Γ : Ctx) (m : Bool) (t : TypeId) (key : V) : List (V × V × Nat) → Nat → (Nat → V → V → Nat → R) → R → R
  | [], _, _, no => no
  | (q, v, n) :: es, i, yes, no => eqV bad Γ m 100 t key q fun b => bif b then yes i q v n else findK bad Γ m t key es (Nat.succ i) yes no
def sameA : A → A → Bool
  | .bool a, .bool b => bif a then b else not b
  | .int k a, .int k' b => two (kEq k k') (Nat.beq a b)
  | .str n s, .str m t => two (Nat.beq n m) (Nat.beq s t)
  | .nil, .nil => true
  | .ptr b o, .ptr c p => two (Nat.beq b c) (Nat.beq o p)
  | _, _ => false
def sameR : Nat → Nat → Rope → Rope → Bool
  | 0, _, _, _ => true
  | c + 1, o, x, y => match x.get o, y.get o with
    | some a, some b => bif sameA a b then sameR c (Nat.succ o) x y else false
    | _, _ => false
/-- Are they the same, bit by bit? -/
def sameK : V → V → Bool
  | .at a, .at b => sameA a b
  | .agg r, .agg s => (match r.bytes, s.bytes with
    | some (n, p), some (m, q) => two (Nat.beq n m) (Nat.beq p q)
    | _, _ => two (Nat.beq r.len s.len) (sameR r.len 0 r s))
  | _, _ => false
def zeroVK (bad : R) (te : TI) (k : V → R) : R := bif te.agg then k (.agg te.zero) else match te.zero.get 0 with | some a => k (.at a) | none => bad
def mtyK (bad : R) (Γ : Ctx) (t : TypeId) (k : TypeId → TI → R) : R := tyK bad Γ t fun ti => match ti.k with | .mp a b => tyK bad Γ a fun _ => tyK bad Γ b fun tb => k a tb | _ => bad
def lookK (bad : R) (Γ : Ctx) (m : Bool) (h : H) (t : TypeId) (x : A) (key : V) (ok : Bool) (k : V → R) : R :=
  mtyK bad Γ t fun a tb => match x with
  | .nilMap => chkV bad Γ m 100 a key (zeroVK bad tb fun z => bif ok then k (.tup [z, .at (.bool false)]) else k z)
  | .map r => mapK bad h r fun es _ => chkV bad Γ m 100 a key (findK bad Γ m a key es 0 (fun _ _ v _ => bif ok then k (.tup [v, .at (.bool true)]) else k v) (zeroVK bad tb fun z => bif ok then k (.tup [z, .at (.bool false)]) else k z))
  | _ => bad
def mapSetK (bad : R) (Γ : Ctx) (m : Bool) (fl : Nat) (h : H) (t : TypeId) (x : A) (key v : V) (k : H → R) : R :=
  mtyK bad Γ t fun a _ => match x with
  | .map r => okK bad (Nat.ble fl r) (mapK bad h r fun es c => chkV bad Γ m 100 a key (findK bad Γ m a key es 0
      (fun i q _ n => okK bad (sameK q key) (setK bad h r (.map (es.set i (key, v, n)) c) k))
      (natK m (Nat.succ c) fun c' => setK bad h r (.map (es ++ [(key, v, c)]) c') k)))
  | _ => bad
def mapEntryK (bad : R) (Γ : Ctx) (m : Bool) (fl : Nat) (h : H) (t : TypeId) (x : A) (key : V) (k : V → H → R) : R :=
  mtyK bad Γ t fun a tb => match x with
  | .map r => okK bad (Nat.ble fl r) (mapK bad h r fun es c => chkV bad Γ m 100 a key (findK bad Γ m a key es 0
      (fun i q v n => okK bad (two (sameK q key) (Nat.blt n 9223372036854775808)) (setK bad h r (.map (es.set i (key, v, n)) c) fun h => k (.tup [v, .at (.int .i64 n)]) h))
      (zeroVK bad tb fun z => okK bad (Nat.blt c 9223372036854775808) (natK m (Nat.succ c) fun c' => setK bad h r (.map (es ++ [(key, z, c)]) c') fun h => k (.tup [z, .at (.int .i64 c)]) h))))
  | _ => bad
/-- The entry of a stamp. -/
def stampK (bad : R) (n : Nat) : List (V × V × Nat) → Nat → (Nat → V → R) → R
  | [], _, _ => bad
  | (q, _, i) :: es, j, k => bif Nat.beq i n then k j q else stampK bad n es (Nat.succ j) k
def entryStoreK (bad : R) (fl : Nat) (h : H) (x : A) (n : A) (v : V) (k : H → R) : R :=
  idxK bad n fun n => match x with
  | .map r => okK bad (Nat.ble fl r) (mapK bad h r fun es c => stampK bad n es 0 fun j q => setK bad h r (.map (es.set j (q, v, n)) c) k)
  | _ => bad
def byteTy (bad : R) (Γ : Ctx) (e : Nat) (k : R) : R := tyK bad Γ e fun te => match te.k with | .int kd => okK bad (kEq kd .u8) k | _ => bad
def elem3K (bad : R) (tk : TK) (k : Nat → R) : R := match tk with | .sl e => k e | _ => bad
def convK (bad : R) (Γ : Ctx) (m : Bool) (fl : Nat) (src dst : TypeId) (h : H) (nx : Nat) (x : A) (k : V → H → Nat → R) : R :=
  tyK bad Γ src fun ts => tyK bad Γ dst fun td => match td.k with
  | .int kd => match x with | .int k' n => natK m (cvI k' kd n) fun n => k (.at (.int kd n)) h nx | _ => bad
  | .str => match x with
    | .str n s => k (.at (.str n s)) h nx
    | .slice b o n c => elem3K bad ts.k fun e => byteTy bad Γ e (srcK bad m h (.slice b o n c) 1 n fun q => match q.bytes with | some (_, s) => natK m s fun s => k (.at (.str n s)) h nx | none => bad)
    | .slu b o n z => elem3K bad ts.k fun e => byteTy bad Γ e (srcK bad m h (.slu b o n z) 1 n fun q => match q.bytes with | some (_, s) => natK m s fun s => k (.at (.str n s)) h nx | none => bad)
    | .nilSlice => elem3K bad ts.k fun e => byteTy bad Γ e (k (.at (.str 0 0)) h nx)
    | _ => bad
  | .sl e => byteTy bad Γ e (match x with
    | .str n s => okK bad (Nat.ble n 1000000000000) (newK bad m h nx (.cells e (.by n s)) fun h nx' => k (.at (.slu nx 0 n 1)) h nx')
    | .slice b o n c => okK bad (two (Nat.beq src dst) (Nat.ble fl b)) (cellsK bad h b fun bt r => setK bad h b (.cells bt r) fun h => k (.at (.slice b o n c)) h nx)
    | .slu b o n z => okK bad (two (Nat.beq src dst) (Nat.ble fl b)) (cellsK bad h b fun bt r => setK bad h b (.cells bt r) fun h => k (.at (.slu b o n z)) h nx)
    | _ => bad)
  | _ => bad
def minK (bad : R) (big : Bool) (x : A) : List A → (V → R) → R
  | [], k => k (.at x)
  | y :: ys, k => match x, y with
    | .int ka a, .int kb b => okK bad (kEq ka kb) (bif Nat.blt (sb ka (bif big then a else b)) (sb ka (bif big then b else a)) then minK bad big (.int ka b) ys k else minK bad big (.int ka a) ys k)
    | _, _ => bad
def elem2K (bad : R) (Γ : Ctx) (tk : TK) (k : Nat → TI → R) : R := match tk with | .sl e => tyK bad Γ e fun te => k e te | _ => bad
def notInt : TK → Bool
  | .sl _ => true
  | .str => true
  | _ => false
def isSl : A → Bool
  | .slice .. => true
  | .slu .. => true
  | .nilSlice => true
  | _ => false
def lenT : TK → A → Option Nat
  | .sl _, .slice _ _ n _ => some n
  | .sl _, .slu _ _ n _ => some n
  | .sl _, .nilSlice => some 0
  | .str, .str n _ => some n
  | _, _ => none
def intLen (m : Bool) (n : Nat) (h : H) (nx : Nat) (bad : R) (k : V → H → Nat → R) : R := okK bad (Nat.blt n 9223372036854775808) (natK m n fun n => k (.at (.int .i64 n)) h nx)
/-- Go's own functions. -/
def builtinK (bad : R) (Γ : Ctx) (m : Bool) (fl fd : Nat) (b : Builtin) (ts : List TypeId) (vs : List V) (h : H) (nx : Nat) (k : V → H → Nat → R) : R :=
  match b with
  | .len => match vs, ts with
    | [v], t :: _ => tyK bad Γ t fun ti => match ti.k with
      | .ar n _ => intLen m n h nx bad k
      | .pt e => tyK bad Γ e fun te => (match te.k with | .ar n _ => intLen m n h nx bad k | _ => bad)
      | tk => atK bad v fun a => match lenT tk a with | some n => intLen m n h nx bad k | none => bad
    | _, _ => bad
  | .min => match vs with
    | .at x :: vs => atsK bad vs fun ys => minK bad false x ys fun v => k v h nx
    | _ => bad
  | .max => match vs with
    | .at x :: vs => atsK bad vs fun ys => minK bad true x ys fun v => k v h nx
    | _ => bad
  | .append => match vs, ts with
    | [.at s, .at x], t :: t2 :: _ => tyK bad Γ t fun ti => elem2K bad Γ ti.k fun e te => tyK bad Γ t2 fun ti2 => okK bad (notInt ti2.k) (
        lenA bad x fun n => srcK bad m h x te.size n fun q => appK bad m fl fd h nx e te s n q k)
    | _, _ => bad
  | .copy => match vs, ts with
    | [.at d, .at x], t :: _ => tyK bad Γ t fun ti => elem2K bad Γ ti.k fun e te => okK bad (isSl d) (lenA bad d fun p => lenA bad x fun n => natK m (bif Nat.ble n p then n else p) fun n => okK bad (Nat.blt n 9223372036854775808) (srcK bad m h x te.size n fun q =>
          bif Nat.beq n 0 then k (.at (.int .i64 n)) h nx else
          match d with
          | .slice b o _ _ => okK bad (Nat.ble fl b) (cellsK bad h b fun bt r => r.upd bad m o (Nat.mul n te.size) q fun r => setK bad h b (.cells bt r) fun h => k (.at (.int .i64 n)) h nx)
          | .slu b o _ z => okK bad (Nat.ble fl b) (cellsK bad h b fun bt r => r.upd bad m o (Nat.mul n te.size) q fun r => setK bad h b (.cells bt r) fun h => k (.at (.int .i64 n)) h nx)
          | _ => bad))
    | _, _ => bad
  | _ => bad
where atsK (bad : R) : List V → (List A → R) → R
  | [], k => k []
  | .at a :: vs, k => atsK bad vs fun as => k (a :: as)
  | _ :: _, _ => bad

/-- One operation (a call of a function aside). -/
def opK (bad : R) (Γ : Ctx) (m : Bool) (fl : Nat) (o : Op) (env : En) (h : H) (nx : Nat) (k : V → H → Nat → R) : R :=
  match o with
  | .move x | .assign x => eO bad m env x fun v => k v h nx
  | .pick c a b => eA bad m env c fun c => match c with | .bool b' => bif b' then eO bad m env a fun v => k v h nx else eO bad m env b fun v => k v h nx | _ => bad
  | .alloc t => tyK bad Γ t fun ti => newK bad m h nx (.cells t ti.zero) fun h nx' => k (.at (.ptr nx 0)) h nx'
  | .box t x => eO bad m env x fun v => ropeK bad v fun r => newK bad m h nx (.cells t r) fun h nx' => k (.at (.ptr nx 0)) h nx'
  | .build t ps => buildK bad Γ m env t ps.toList fun v => k v h nx
  | .buildSlice t n ps => tyK bad Γ t fun ti => match ti.k with
    | .sl e => tyK bad Γ e fun te => okK bad (Nat.ble (Nat.mul n te.size) 16777216) (fillK bad Γ m env (fun i k => k (Nat.mul i te.size) e) ps.toList (zerosR n te) fun r => okK bad (Nat.ble n 1000000000000) (newK bad m h nx (.cells e r) fun h nx' => k (.at (.slice nx 0 n n)) h nx'))
    | _ => bad
  | .load t x => eA bad m env x fun a => ptrK bad a fun b o => loadK bad Γ m h t b o fun v => k v h nx
  | .store t x y => eA bad m env x fun a => ptrK bad a fun b o => eO bad m env y fun v => storeK bad Γ m fl h t b o v fun h => k .undef h nx
  | .nilCheck x => eA bad m env x fun a => ptrK bad a fun _ _ => k (.at a) h nx
  | .binOp op t x y _ => eO bad m env x fun x => eO bad m env y fun y => binV bad Γ m op t x y fun v => k v h nx
  | .unOp op _ x => eA bad m env x fun x => unA bad m op x fun v => k v h nx
  | .convert s d x => eA bad m env x fun x => convK bad Γ m fl s d h nx x k
  | .sliceToArrayPointer t x => tyK bad Γ t fun ti => eA bad m env x fun a => match ti.k with
    | .ar n _ => lenA bad a fun l => okK bad (Nat.ble n l) (match a with | .slice b o _ _ => okK bad (Nat.blt 0 n) (k (.at (.ptr b o)) h nx) | .slu b o _ _ => okK bad (Nat.blt 0 n) (k (.at (.ptr b o)) h nx) | _ => bad)
    | _ => bad
  | .makeFunc f fs cs => eAs bad m env fs.toList fun fs => eAs bad m env cs.toList fun cs => k (.at (.fn f fs cs)) h nx
  | .makeSlice t l c => tyK bad Γ t fun ti => match ti.k with
    | .sl e => tyK bad Γ e fun te => eA bad m env l fun l => idxK bad l fun l => eA bad m env c fun c => idxK bad c fun c =>
        okK bad (two (two (Nat.ble l c) (Nat.ble c 1000000000000)) (Nat.ble (Nat.mul te.bytes c) 281474976710656)) (newK bad m h nx (.cells e (zerosR c te)) fun h nx' => k (.at (.slice nx 0 l c)) h nx')
    | _ => bad
  | .slice t x lo hi mx => sliceK bad Γ m env t x lo hi mx fun v => k v h nx
  | .fieldAddr s x f => fieldOf bad Γ s f fun o t => tyK bad Γ t fun ti => okK bad (Nat.blt 0 ti.size) <| eA bad m env x fun a => ptrK bad a fun b p => natK m (Nat.add p o) fun p => k (.at (.ptr b p)) h nx
  | .field s x f => fieldOf bad Γ s f fun o t => tyK bad Γ t fun ti => eO bad m env x fun v => match v with | .agg r => partK bad m ti r o fun v => k v h nx | _ => bad
  | .indexAddr t x i => eA bad m env x fun x => eA bad m env i fun i => indexK bad Γ m t x i fun v => k v h nx
  | .index t x i => eO bad m env x fun x => eA bad m env i fun i => indexV bad Γ m t x i fun v => k v h nx
  | .makeMap t r => tyK bad Γ t fun ti => match ti.k with
    | .mp _ _ => (match r with
      | none => newK bad m h nx (.map [] 0) fun h nx' => k (.at (.map nx)) h nx'
      | some x => eA bad m env x fun a => idxK bad a fun _ => newK bad m h nx (.map [] 0) fun h nx' => k (.at (.map nx)) h nx')
    | _ => bad
  | .lookup t x i ok => eA bad m env x fun a => eO bad m env i fun key => lookK bad Γ m h t a key ok fun v => k v h nx
  | .mapUpdate t x i y => eA bad m env x fun a => eO bad m env i fun key => eO bad m env y fun v => mapSetK bad Γ m fl h t a key v fun h => k .undef h nx
  | .insert t x i y => eA bad m env x fun a => eO bad m env i fun key => eO bad m env y fun v => mapSetK bad Γ m fl h t a key v fun h => k .undef h nx
  | .mapEntry t x i => eA bad m env x fun a => eO bad m env i fun key => mapEntryK bad Γ m fl h t a key fun v h => k v h nx
  | .entryStore _ x i y => eA bad m env x fun a => eA bad m env i fun n => eO bad m env y fun v => entryStoreK bad fl h a n v fun h => k .undef h nx
  | .extract x i => eO bad m env x fun v => match v with | .tup vs => (match vs[i]? with | some v => k v h nx | none => bad) | _ => bad
  | _ => bad
end
end Go.E
