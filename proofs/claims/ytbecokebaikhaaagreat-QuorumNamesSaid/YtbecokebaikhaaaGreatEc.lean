/-
  E, third text: regions, code, calls. Nothing is proved here.
-/
import Derived.Test.YtbecokebaikhaaaGreatEb
namespace Go.E
open Go
set_option linter.unusedVariables false

inductive X where
  | normal
  | exit (id : Nat)
  | ret

/-- Operations that only compute. -/
def pureB : Op → Bool
  | .move _ | .assign _ | .pick .. | .build .. | .nilCheck _ | .unOp .. | .sliceToArrayPointer .. | .makeFunc .. | .slice .. | .fieldAddr .. | .field .. | .indexAddr .. | .index .. | .extract .. | .binOp .. => true
  | .call { callee := .builtin b, .. } => match b with | .min | .max | .cap => true | _ => false
  | _ => false
def bit (b i : Nat) : Bool := Nat.beq (Nat.mod (Nat.shiftRight b i) 2) 1
/-- Which operations come before: a mask for each. -/
def befs : List Oper → List Nat → List Nat
  | [], acc => acc
  | o :: os, acc => befs os (acc ++ [o.after.toList.foldl (fun s e => bif Region.binds .any e then Nat.lor s (Nat.lor (Nat.pow 2 e.on) (acc.getD e.on 0)) else s) 0])
def tmpOf : Operand → Option Nat
  | .tmp t => some t
  | _ => none
def tmpsOf (os : List Oper) (o : Oper) : List Nat :=
  (o.op.operands.toList.filterMap tmpOf) ++ (match o.guard with | some (j, _) => (match os[j]? with | some p => p.dst.toList | none => []) | none => [])
/-- (index, mask, operation) -/
def rows (os : List Oper) : List (Nat × Nat × Oper) := (List.range os.length).zip ((befs os []).zip os)
def ordB (i bi j bj : Nat) : Bool := bif bit bj i then true else bit bi j
/-- Who names a slot that another writes is ordered with it; edges lead back. -/
def slotsB (os : List Oper) : Bool :=
  (rows os).all fun x => (x.2.2.after.toList.all fun e => bif Region.binds .any e then Nat.blt e.on x.1 else true) &&
    (match x.2.2.guard with | some (j, _) => two (bit x.2.1 j) (match os[j]? with | some p => p.dst.isSome | none => false) | none => true) &&
    (rows os).all fun y => bif Nat.beq x.1 y.1 then true else match y.2.2.dst with
      | none => true
      | some d => bif ((tmpsOf os x.2.2 ++ x.2.2.dst.toList).any (Nat.beq d)) then ordB x.1 x.2.1 y.1 y.2.1 else true
/-- Is the operation ordered with all others that have to do with memory? -/
def totB (rs : List (Nat × Nat × Oper)) (i bi : Nat) : Bool := rs.all fun y => bif Nat.beq i y.1 then true else bif pureB y.2.2.op then true else ordB i bi y.1 y.2.1

/-- What is kept of an operation whose order is open: its place, its mask, the blocks that it made, those that it looked at (none: any), those that it changed. -/
structure Rec where
  i : Nat
  bi : Nat
  lo : Nat
  n : Nat
  acc : Option (List Nat)
  wr : List Nat
def disj (a b : List Nat) : Bool := a.all fun x => not (b.any (Nat.beq x))
def madeB (r : Rec) (b : Nat) : Bool := two (Nat.ble r.lo b) (Nat.blt b (Nat.add r.lo r.n))
def accOk (acc : List Nat) (r : Rec) : Bool := two (disj acc r.wr) (acc.all fun b => not (madeB r b))
/-- The block was made by an operation of the region for which r did not wait. -/
def unseen (al : List Rec) (r : Rec) (b : Nat) : Bool := al.any fun q => two (madeB q b) (two (not (bit r.bi q.i)) (not (Nat.beq q.i r.i)))
def wrOk (al : List Rec) (wr : List Nat) (r : Rec) : Bool := match r.acc with | some l => disj wr l | none => wr.all (unseen al r)
def blkOf : A → List Nat
  | .ptr b _ => [b]
  | .slice b _ _ _ => [b]
  | .slu b _ _ _ => [b]
  | .map r => [r]
  | _ => []
def blkV : V → List Nat
  | .at a => blkOf a
  | _ => []
def callB : Op → Bool
  | .call { callee := .value _, .. } => true
  | _ => false

section
variable {R : Type}
abbrev CallF (R : Type) := Nat → Nat → FuncId → List V → H → Nat → (V → H → Nat → R) → R

def putK (bad : R) (env : En) (d : Nat) (v : V) (k : En → R) : R := Tr.put bad 64 env d (some v) k
def dstK (bad : R) (env : En) (d : Option Nat) (v : V) (k : En → R) : R := match d with | none => k env | some d => putK bad env d v k
def atL (l : List A) : List V := l.map V.at
def evO (bad : R) (C : CallF R) (Γ : Ctx) (m : Bool) (fl fd : Nat) (o : Op) (env : En) (h : H) (nx : Nat) (k : V → H → Nat → R) : R :=
  match o with
  | .call c => match c.callee with
    | .value f => eA bad m env f fun f => match f with
      | .fn (.func g) fs cs => eOs bad m env c.args.toList fun vs => C fl fd g (atL fs ++ (vs ++ atL cs)) h nx k
      | _ => bad
    | .builtin b => eOs bad m env c.args.toList fun vs => builtinK bad Γ m fl fd b c.argTypes.toList vs h nx k
    | .invoke .. => bad
  | o => opK bad Γ m fl o env h nx k
/-- What the operation's guard says. -/
def guardK (bad : R) (os : List Oper) (env : En) (g : Option (Nat × Bool)) (yes no : R) : R :=
  match g with
  | none => yes
  | some (j, want) => match os[j]? with
    | none => bad
    | some p => match p.dst with
      | none => bad
      | some s => match env.get s with
        | some (.at (.bool b)) => bif b then (bif want then yes else no) else (bif want then no else yes)
        | _ => bad
/-- Operations, one after the other. -/
def evL (bad : R) (C : CallF R) (Γ : Ctx) (m : Bool) (fl fd : Nat) (os : List Oper) : List Oper → En → H → Nat → (En → H → Nat → R) → R
  | [], env, h, nx, k => k env h nx
  | o :: r, env, h, nx, k => guardK bad os env o.guard
      (evO bad C Γ m fl fd o.op env h nx fun v h nx => dstK bad env o.dst v fun env => evL bad C Γ m fl fd os r env h nx k)
      (dstK bad env o.dst .undef fun env => evL bad C Γ m fl fd os r env h nx k)

/-- Which blocks an operation looks at; may it change them? -/
def footK (bad : R) (m : Bool) (env : En) (o : Op) (k : List Nat → Bool → R) : R :=
  match o with
  | .alloc _ | .box .. | .buildSlice .. | .makeSlice .. | .makeMap .. => k [] false
  | .load _ x => eO bad m env x fun v => k (blkV v) false
  | .store _ x _ => eO bad m env x fun v => k (blkV v) true
  | .convert _ _ x => eO bad m env x fun v => k (blkV v) true
  | .lookup _ x _ _ => eO bad m env x fun v => k (blkV v) false
  | .mapUpdate _ x _ _ | .insert _ x _ _ | .mapEntry _ x _ | .entryStore _ x _ _ => eO bad m env x fun v => k (blkV v) true
  | .call c => match c.callee with
    | .builtin b => eOs bad m env c.args.toList fun vs => match b with
      | .len => k ((vs.map blkV).flatten) false
      | .append | .copy | .delete | .clear => k ((vs.map blkV).flatten) true
      | _ => bad
    | _ => bad
  | _ => bad
/-- These blocks alone. -/
def pickK (bad : R) (h : H) : List Nat → H → (H → R) → R
  | [], h1, k => k h1
  | b :: bs, h1, k => match h.get b with
    | some x => setK bad h1 b x fun h1 => pickK bad h bs h1 k
    | none => pickK bad h bs h1 k
/-- What h1 has of these blocks, put into h. -/
def backK (bad : R) (h1 : H) : List Nat → H → (H → R) → R
  | [], h, k => k h
  | b :: bs, h, k => Tr.put bad 64 h b (h1.get b) fun h => backK bad h1 bs h k
def fromTo : Nat → Nat → List Nat
  | 0, _ => []
  | n + 1, lo => lo :: fromTo n (Nat.succ lo)
def dropK (bad : R) : List Nat → H → (H → R) → R
  | [], h, k => k h
  | b :: bs, h, k => match h.get b with
    | some _ => delK bad h b fun h => dropK bad bs h k
    | none => dropK bad bs h k
def gone (h h1 : H) : List Nat → List Nat
  | [] => []
  | b :: bs => match h.get b, h1.get b with
    | some _, none => b :: gone h h1 bs
    | _, _ => gone h h1 bs
/-- Operations whose order is open. -/
def evD (bad : R) (C : CallF R) (Γ : Ctx) (m : Bool) (fl fd : Nat) (os : List Oper) (rs : List (Nat × Nat × Oper)) (nx0 : Nat) : List (Nat × Nat × Oper) → List Rec → En → H → Nat → (En → H → Nat → R) → R
  | [], al, env, h, nx, k => k env h nx
  | (i, bi, o) :: r, al, env, h, nx, k => guardK bad os env o.guard
      (bif pureB o.op then evO bad C Γ m nx nx o.op env .lf nx (fun v _ nx' => okK bad (Nat.beq nx' nx) (dstK bad env o.dst v fun env => evD bad C Γ m fl fd os rs nx0 r al env h nx k))
       else bif callB o.op then
         (bif totB rs i bi then evO bad C Γ m fl fd o.op env h nx (fun v h' nx' => okK bad (Nat.ble nx nx') (dstK bad env o.dst v fun env => evD bad C Γ m fl fd os rs nx0 r (⟨i, bi, nx, Nat.sub nx' nx, none, []⟩ :: al) env h' nx' k))
          else
            let un := al.filter fun r => not (ordB i bi r.i r.bi)
            let off := (un.map fun r => fromTo r.n r.lo ++ r.wr).flatten
            dropK bad off h fun h1 => okK bad (Nat.ble nx0 nx) (evO bad C Γ m nx nx0 o.op env h1 nx fun v h2 nx' =>
              let dl := gone h1 h2 (fromTo (Nat.sub nx nx0) nx0)
              okK bad (two (Nat.ble nx nx') (un.all (wrOk al dl))) (backK bad h2 (dl ++ fromTo (Nat.sub nx' nx) nx) h fun h' => dstK bad env o.dst v fun env => evD bad C Γ m fl fd os rs nx0 r (⟨i, bi, nx, Nat.sub nx' nx, none, dl⟩ :: al) env h' nx' k)))
       else footK bad m env o.op fun acc ww =>
         let un := al.filter fun r => not (ordB i bi r.i r.bi)
         let wr := bif ww then acc else []
         okK bad (two (acc.all fun b => Nat.blt b nx) (two (un.all (accOk acc)) (un.all (wrOk al wr)))) (pickK bad h acc .lf fun h1 => evO bad C Γ m (bif ww then fl else nx) (bif ww then fd else nx) o.op env h1 nx fun v h2 nx' =>
           okK bad (Nat.ble nx nx') (backK bad h2 (wr ++ fromTo (Nat.sub nx' nx) nx) h fun h' => dstK bad env o.dst v fun env => evD bad C Γ m fl fd os rs nx0 r (⟨i, bi, nx, Nat.sub nx' nx, some acc, wr⟩ :: al) env h' nx' k)))
      (dstK bad env o.dst .undef fun env => evD bad C Γ m fl fd os rs nx0 r al env h nx k)

def evC (bad : R) (C : CallF R) (Γ : Ctx) (m : Bool) (fl fd : Nat) : Nat → Code → En → H → Nat → (X → En → H → Nat → R) → R
  | 0, _, _, _, _, _ => bad
  | n + 1, c, env, h, nx, k => match c with
    | .skip => k .normal env h nx
    | .label _ => k .normal env h nx
    | .exit id => k (.exit id) env h nx
    | .ret => k .ret env h nx
    | .seq a b => evC bad C Γ m fl fd n a env h nx fun x env h nx => match x with
      | .normal => evC bad C Γ m fl fd n b env h nx k
      | .exit i => k (.exit i) env h nx
      | .ret => k .ret env h nx
    | .cond c a b => eA bad m env c fun c => match c with
      | .bool t => bif t then evC bad C Γ m fl fd n a env h nx k else evC bad C Γ m fl fd n b env h nx k
      | _ => bad
    | .block id a => evC bad C Γ m fl fd n a env h nx fun x env h nx => match x with
      | .normal => k .normal env h nx
      | .exit i => bif Nat.beq i id then k .normal env h nx else k (.exit i) env h nx
      | .ret => k .ret env h nx
    | .loop a => evC bad C Γ m fl fd n a env h nx fun x env h nx => match x with
      | .normal => evC bad C Γ m fl fd n (.loop a) env h nx k
      | .exit i => k (.exit i) env h nx
      | .ret => k .ret env h nx
    | .scope a => evC bad C Γ m fl fd n a env h nx k
    | .region _ ops d => bif d then okK bad (slotsB ops.toList) (evD bad C Γ m fl fd ops.toList (rows ops.toList) nx (rows ops.toList) [] env h nx fun env h nx => k .normal env h nx)
        else evL bad C Γ m fl fd ops.toList ops.toList env h nx fun env h nx => k .normal env h nx
    | _ => bad

def argsK (bad : R) : Nat → List V → En → (En → R) → R
  | _, [], env, k => k env
  | i, v :: vs, env, k => putK bad env i v fun env => argsK bad (Nat.succ i) vs env k
def resK (bad : R) (Γ : Ctx) (m : Bool) (env : En) (h : H) : List ResultVar → (List V → R) → R
  | [], k => k []
  | .tmp t :: r, k => match env.get t with | some v => resK bad Γ m env h r fun vs => k (v :: vs) | none => bad
  | .cell t ty :: r, k => match env.get t with
    | some (.at (.ptr b o)) => loadK bad Γ m h ty b o fun v => resK bad Γ m env h r fun vs => k (v :: vs)
    | _ => bad
def packV : List V → V
  | [v] => v
  | vs => .tup vs
/-- A call, so deep at the most. -/
def callN (bad : R) (Γ : Ctx) (m : Bool) : Nat → CallF R
  | 0, _, _, _, _, _, _, _ => bad
  | d + 1, fl, fd, f, vs, h, nx, k => match Γ.con.get f with
    | some c => c.run bad vs h fl fd nx k
    | none => match Γ.fn.get f with
      | none => bad
      | some fi => okK bad (Nat.ble vs.length fi.n) (argsK bad 0 vs .lf fun env => evC bad (callN bad Γ m d) Γ m fl fd 1000000000 fi.body env h nx fun x env h nx =>
          match x with
          | .exit _ => bad
          | _ => resK bad Γ m env h fi.res fun vs => k (packV vs) h nx)
end
/-- Functions that the model itself answers. -/
def conAdd64 : Con := ⟨fun bad vs h _ _ nx k => match vs with
  | [.at (.int .u64 a), .at (.int .u64 b), .at (.int .u64 c)] => natK true (Nat.add a (Nat.add b c)) fun s => natK true (Nat.mod s 18446744073709551616) fun x => natK true (Nat.div s 18446744073709551616) fun y => k (.tup [.at (.int .u64 x), .at (.int .u64 y)]) h nx
  | _ => bad⟩
def conSub64 : Con := ⟨fun bad vs h _ _ nx k => match vs with
  | [.at (.int .u64 a), .at (.int .u64 b), .at (.int .u64 c)] => natK true (Nat.mod (Nat.sub (Nat.add a 36893488147419103232) (Nat.add b c)) 18446744073709551616) fun x => bif Nat.blt a (Nat.add b c) then k (.tup [.at (.int .u64 x), .at (.int .u64 1)]) h nx else k (.tup [.at (.int .u64 x), .at (.int .u64 0)]) h nx
  | _ => bad⟩
/-- bytes.Compare. -/
def conCompare : Con := ⟨fun bad vs h _ _ nx k => match vs with
  | [.at a, .at b] => lenA bad a fun n => lenA bad b fun p => srcK bad true h a 1 n fun x => srcK bad true h b 1 p fun y =>
    match x.bytes, y.bytes with
    | some (_, s), some (_, t) => bif two (Nat.beq n p) (Nat.beq s t) then k (.at (.int .i64 0)) h nx else bif strLt (Nat.succ n) n s p t then k (.at (.int .i64 18446744073709551615)) h nx else k (.at (.int .i64 1)) h nx
    | _, _ => bad
  | _ => bad⟩
end Go.E
