/-
  S, third text: drawn regions, code; and the compiler. Nothing is proved here.
-/
import Derived.Test.YtbecokebaikhaaaGreatSb
namespace Go.S
open Go Go.E
set_option linter.unusedVariables false

/-! Regions in order. -/
noncomputable def pN : PV := fun e _ k => k e
noncomputable def opR (f : OpF) (p : PV) : RgF := fun x e m k => f x e m fun v m => p e v fun e => k e m
noncomputable def skR : RgF := fun _ e m k => k e m
noncomputable def unR (p : PV) : RgF := fun _ e m k => p e .undef fun e => k e m
noncomputable def sqR (f g : RgF) : RgF := fun x e m k => f x e m fun e m => g x e m k
noncomputable def gdR (w : Bool) (g : GB) (f u : RgF) : RgF := fun x e m k => iF w (g e (f x e m k) (u x e m k)) (g e (u x e m k) (f x e m k))

/-! Regions whose order is open. -/
abbrev DrF := X2 → Nat → E2 → M2 → List Rec → (E2 → M2 → List Rec → Bool) → Bool
abbrev FtF := E2 → (List Nat → Bool) → Bool
noncomputable def bkR (a : A) (k : List Nat → Bool) : Bool := A.rec (motive_1 := fun _ => Bool) (motive_2 := fun _ => Bool) (fun _ => k []) (fun _ _ => k []) (fun _ _ => k []) (fun b _ => k [b]) (k []) (fun b _ _ _ => k [b]) (fun b _ _ _ => k [b]) (k []) (fun r => k [r]) (k []) (fun _ _ _ _ _ => k []) (k []) (k []) false (fun _ _ _ _ => false) a
noncomputable def ft0 : FtF := fun _ k => k []
noncomputable def ft1 (g : GA) : FtF := fun e k => g e fun a => bkR a k
noncomputable def ft2 (g g' : GA) : FtF := fun e k => g e fun a => g' e fun b => bkR a fun l => bkR b fun l' => k (l ++ l')
noncomputable def odR (i bi j bj : Nat) : Bool := iF (Nat.beq (Nat.mod (Nat.shiftRight bj i) 2) 1) true (Nat.beq (Nat.mod (Nat.shiftRight bi j) 2) 1)
noncomputable def unl (i bi : Nat) (al : List Rec) : List Rec := List.rec (motive := fun _ => List Rec) [] (fun r _ ih => Rec.rec (motive := fun _ => List Rec) (fun j bj _ _ _ _ => iF (odR i bi j bj) ih (r :: ih)) r) al
noncomputable def allR {α : Type} (p : α → Bool) (l : List α) : Bool := List.rec (motive := fun _ => Bool) true (fun x _ ih => iF (p x) ih false) l
noncomputable def piR (h : H) (l : List Nat) : H → (H → Bool) → Bool := List.rec (motive := fun _ => H → (H → Bool) → Bool) (fun h1 k => k h1) (fun b _ ih h1 k => Option.rec (motive := fun _ => Bool) (ih h1 k) (fun x => tP 64 h1 b (some x) fun h1 => ih h1 k) (tG none h b some)) l
noncomputable def baR (h1 : H) (l : List Nat) : H → (H → Bool) → Bool := List.rec (motive := fun _ => H → (H → Bool) → Bool) (fun h k => k h) (fun b _ ih h k => tP 64 h b (tG none h1 b some) fun h => ih h k) l
noncomputable def frR (n : Nat) : Nat → List Nat := Nat.rec (motive := fun _ => Nat → List Nat) (fun _ => []) (fun _ ih lo => lo :: ih (Nat.succ lo)) n
noncomputable def dPu (f : OpF) (p : PV) : DrF := fun x _ e m al k => mH m fun h nx => xX x fun C _ _ => f (.mk C nx nx) e (.mk .lf nx) fun v m' => mH m' fun _ nx' => iF (Nat.beq nx' nx) (p e v fun e => k e m al) false
noncomputable def dTo (i bi : Nat) (f : OpF) (p : PV) : DrF := fun x _ e m al k => mH m fun _ nx => f x e m fun v m' => mH m' fun _ nx' => iF (Nat.ble nx nx') (p e v fun e => k e m' (⟨i, bi, nx, Nat.sub nx' nx, none, []⟩ :: al)) false
noncomputable def dFr (i bi : Nat) (f : OpF) (p : PV) : DrF := fun x n0 e m al k => mH m fun h nx => xX x fun C _ _ =>
  dropK false (((al.filter fun r => not (ordB i bi r.i r.bi)).map fun r => fromTo r.n r.lo ++ r.wr).flatten) h fun h1 => iF (Nat.ble n0 nx) (f (.mk C nx n0) e (.mk h1 nx) fun v m2 => mH m2 fun h2 nx' =>
    (fun dl => iF (Nat.ble nx nx') (iF ((al.filter fun r => not (ordB i bi r.i r.bi)).all (wrOk al dl)) (backK false h2 (dl ++ fromTo (Nat.sub nx' nx) nx) h fun h' => p e v fun e => k e (.mk h' nx') (⟨i, bi, nx, Nat.sub nx' nx, none, dl⟩ :: al)) false) false) (gone h1 h2 (fromTo (Nat.sub nx n0) n0))) false
noncomputable def dMe (i bi : Nat) (ww : Bool) (ft : FtF) (f : OpF) (p : PV) : DrF := fun x _ e m al k => mH m fun h nx => xX x fun C fl fd => ft e fun acc =>
  (fun un wr => iF (allR (fun b => Nat.ble (Nat.succ b) nx) acc) (iF (allR (accOk acc) un) (iF (allR (wrOk al wr) un) (piR h acc .lf fun h1 =>
    f (.mk C (iF ww fl nx) (iF ww fd nx)) e (.mk h1 nx) fun v m2 => mH m2 fun h2 nx' => iF (Nat.ble nx nx') (baR h2 (wr ++ frR (Nat.sub nx' nx) nx) h fun h' => p e v fun e => k e (.mk h' nx') (⟨i, bi, nx, Nat.sub nx' nx, some acc, wr⟩ :: al)) false) false) false) false)
    (unl i bi al) (iF ww acc [])
noncomputable def dGd (w : Bool) (g : GB) (f : DrF) (p : PV) : DrF := fun x n0 e m al k => iF w (g e (f x n0 e m al k) (p e .undef fun e => k e m al)) (g e (p e .undef fun e => k e m al) (f x n0 e m al k))
noncomputable def dBd : DrF := fun _ _ _ _ _ _ => false
noncomputable def d0 : DrF := fun _ _ e m al k => k e m al
noncomputable def dSq (f g : DrF) : DrF := fun x n0 e m al k => f x n0 e m al fun e m al => g x n0 e m al k
noncomputable def drR (f : DrF) : RgF := fun x e m k => mH m fun _ nx => f x nx e m [] fun e m _ => k e m

/-! Code. -/
noncomputable def xK (r : X) (a : Bool) (b : Nat → Bool) (c : Bool) : Bool := X.rec (motive := fun _ => Bool) a b c r
noncomputable def cSk : CdF := fun _ e m k => k .normal e m
noncomputable def cBd : CdF := fun _ _ _ _ => false
noncomputable def cEx (i : Nat) : CdF := fun _ e m k => k (.exit i) e m
noncomputable def cRt : CdF := fun _ e m k => k .ret e m
noncomputable def cSq (f g : CdF) : CdF := fun x e m k => f x e m fun r e m => xK r (g x e m k) (fun i => k (.exit i) e m) (k .ret e m)
noncomputable def cRg (f : RgF) : CdF := fun x e m k => f x e m fun e m => k .normal e m
noncomputable def cIf (g : GB) (a b : CdF) : CdF := fun x e m k => g e (a x e m k) (b x e m k)
noncomputable def cBl (j : Nat) (f : CdF) : CdF := fun x e m k => f x e m fun r e m => xK r (k .normal e m) (fun i => iF (Nat.beq i j) (k .normal e m) (k (.exit i) e m)) (k .ret e m)
noncomputable def cLp (f : CdF) : CdF := fun x e m k => Nat.rec (motive := fun _ => E2 → M2 → Bool) (fun _ _ => false) (fun _ ih e m => f x e m fun r e m => xK r (ih e m) (fun i => k (.exit i) e m) (k .ret e m)) 1000000 e m

/-! Functions. -/
abbrev FnF := X2 → List V → M2 → (V → M2 → Bool) → Bool
abbrev AgF := List V → E2 → (E2 → Bool) → Bool
noncomputable def ag0 : AgF := fun vs e k => List.rec (motive := fun _ => Bool) (k e) (fun _ _ _ => false) vs
noncomputable def ag1 (p : PV) (f : AgF) : AgF := fun vs e k => List.rec (motive := fun _ => Bool) (k e) (fun v t _ => p e v fun e => f t e k) vs
abbrev RsF := E2 → M2 → (List V → Bool) → Bool
noncomputable def rs0 : RsF := fun _ _ k => k []
noncomputable def rsT (g : GV) (f : RsF) : RsF := fun e m k => g e fun v => f e m fun l => k (v :: l)
noncomputable def rsL (p : GP) (f : RsF) : RsF := fun e m k => p e fun b o => mH m fun h _ => hG h b fun _ r => rG r o fun a => f e m fun l => k (.at a :: l)
noncomputable def rsG (s : Nat) (p : GP) (f : RsF) : RsF := fun e m k => p e fun b o => mH m fun h _ => hG h b fun _ r => rS r o s fun r => f e m fun l => k (.agg r :: l)
noncomputable def pkV (l : List V) (k : V → Bool) : Bool := List.rec (motive := fun _ => Bool) (k (.tup [])) (fun v t _ => List.rec (motive := fun _ => Bool) (k v) (fun _ _ _ => k (.tup l)) t) l
noncomputable def c00 : C16 V := .mk .undef .undef .undef .undef .undef .undef .undef .undef .undef .undef .undef .undef .undef .undef .undef .undef
noncomputable def e00 : E2 := .mk c00 c00 c00 c00 c00 c00 c00 c00 c00 c00 c00 c00 c00 c00 c00 c00 c00 c00 c00 c00 c00 c00 c00 c00 c00 c00 c00 c00 c00 c00 c00 c00
noncomputable def fnX (a : AgF) (b : CdF) (r : RsF) : FnF := fun x vs m k => a vs e00 fun e => b x e m fun q e m => xK q (r e m fun l => pkV l fun v => k v m) (fun _ => false) (r e m fun l => pkV l fun v => k v m)
noncomputable def fnC (c : Con) : FnF := fun x vs m k => mH m fun h nx => xX x fun _ fl fd => c.run false vs h fl fd nx fun v h nx => k v (.mk h nx)
noncomputable def run (tab : Tr FnF) (d : Nat) : CallF Bool := Nat.rec (motive := fun _ => CallF Bool) (fun _ _ _ _ _ _ _ => false) (fun _ ih fl fd f vs h nx k => tG false tab f fun F => F (.mk ih fl fd) vs (.mk h nx) fun v m => mH m fun h nx => k v h nx) d

/-! The compiler. -/
section
variable {α : Type}
noncomputable def slC (t : Nat) (k : ((E2 → (C16 V → Bool) → Bool)) → (E2 → C16 V → (E2 → Bool) → Bool) → (C16 V → (V → Bool) → Bool) → (C16 V → V → (C16 V → Bool) → Bool) → Cl α) : Cl α :=
  iF (Nat.ble (Nat.succ t) 512) (selO (Nat.div t 16) fun o => So.rec (motive := fun _ => Cl α) (fun og os => selI (Nat.mod t 16) fun i => Si.rec (motive := fun _ => Cl α) (fun ig is => k og os ig is) i) o) .no
noncomputable def oC (x : Operand) : Cl GV := match x with
  | .tmp t => slC t fun og _ ig _ => .mk (gT og ig)
  | .const v => constC .no true v fun v => .mk (gC v)
  | .func f => .mk (gC (.at (.fn (.func f) [] [])))
  | .global _ => .no
noncomputable def dC (d : Option Nat) : Cl PV := match d with
  | none => .mk pN
  | some t => slC t fun og os _ is => .mk (pT og is os)
noncomputable def tyC (Γ : Ctx) (t : TypeId) (k : TI → Cl α) : Cl α := tG .no Γ.ty t fun ti => TI.rec (motive := fun _ => Cl α) (fun a s b g z f => nK s fun s => nK b fun b => k ⟨a, s, b, g, z, f⟩) ti
noncomputable def tiC (ti : TI) (k : TK → Nat → Nat → Bool → Rope → Cl α) : Cl α := TI.rec (motive := fun _ => Cl α) (fun a s b g z _ => k a s b g z) ti
noncomputable def aC (x : Operand) : Cl GA := (oC x).go fun g => .mk (gA g)
noncomputable def pC (x : Operand) : Cl GP := (oC x).go fun g => .mk (gP g)
noncomputable def bC' (x : Operand) : Cl GB := (oC x).go fun g => .mk (gB g)
noncomputable def xC (x : Operand) : Cl GN := (oC x).go fun g => .mk (gX g)
noncomputable def lvC : List Operand → Cl LsV
  | [] => .mk lv0
  | x :: xs => (oC x).go fun g => (lvC xs).go fun l => .mk (lv1 g l)
noncomputable def laC : List Operand → Cl LsA
  | [] => .mk la0
  | x :: xs => (aC x).go fun g => (laC xs).go fun l => .mk (la1 g l)
noncomputable def bdC (x : Option Operand) : Cl BdF := match x with
  | none => .mk bd0
  | some x => (xC x).go fun g => .mk (bd1 g)
noncomputable def kdC (kd : IntKind) (k : (IntKind → Bool → Bool) → Cl α) : Cl α := IntKind.rec (motive := fun _ => Cl α) (k (kC .i8)) (k (kC .i16)) (k (kC .i32)) (k (kC .i64)) (k (kC .u8)) (k (kC .u16)) (k (kC .u32)) (k (kC .u64)) kd
end
noncomputable def ntC : Nat → Cl NthF
  | 0 => .mk nt0
  | n + 1 => (ntC n).go fun f => .mk (nt1 f)
noncomputable def fillC (Γ : Ctx) (pl : Nat → (Nat → Nat → Cl FiF) → Cl FiF) : List (Nat × Operand) → Cl FiF
  | [] => .mk fi0
  | (i, x) :: ps => (oC x).go fun g => (fillC Γ pl ps).go fun f => pl i fun o t => tyC Γ t fun ti => nK o fun o => .mk (fi1 o ti.size g f)
noncomputable def intC (Γ : Ctx) (op : BinOp) (kd : IntKind) (a b : GV) (yt : TypeId) : Cl OpF :=
  kdC kd fun c => nK (md kd) fun M => nK (hf kd) fun F =>
  match op with
  | .add => .mk (arF (fun p q => Nat.mod (Nat.add p q) M) kd (gI a c) (gI b c))
  | .sub => .mk (arF (fun p q => Nat.mod (Nat.add p (Nat.sub M q)) M) kd (gI a c) (gI b c))
  | .mul => .mk (arF (fun p q => Nat.mod (Nat.mul p q) M) kd (gI a c) (gI b c))
  | .and => .mk (arF Nat.land kd (gI a c) (gI b c))
  | .or => .mk (arF Nat.lor kd (gI a c) (gI b c))
  | .xor => .mk (arF Nat.xor kd (gI a c) (gI b c))
  | .andNot => .mk (arF (fun p q => Nat.land p (Nat.sub (Nat.pred M) q)) kd (gI a c) (gI b c))
  | .quo => nK (tp kd) fun t => .mk (qrF Nat.div kd t (gI a c) (gI b c))
  | .rem => nK (tp kd) fun t => .mk (qrF Nat.mod kd t (gI a c) (gI b c))
  | .eql => .mk (cmF Nat.beq (gI a c) (gI b c))
  | .neq => .mk (cmF (fun p q => iF (Nat.beq p q) false true) (gI a c) (gI b c))
  | .lss => .mk (cmF (fun p q => Nat.ble (Nat.succ (Nat.mod (Nat.add p F) M)) (Nat.mod (Nat.add q F) M)) (gI a c) (gI b c))
  | .leq => .mk (cmF (fun p q => Nat.ble (Nat.mod (Nat.add p F) M) (Nat.mod (Nat.add q F) M)) (gI a c) (gI b c))
  | .gtr => .mk (cmF (fun p q => Nat.ble (Nat.succ (Nat.mod (Nat.add q F) M)) (Nat.mod (Nat.add p F) M)) (gI a c) (gI b c))
  | .geq => .mk (cmF (fun p q => Nat.ble (Nat.mod (Nat.add q F) M) (Nat.mod (Nat.add p F) M)) (gI a c) (gI b c))
  | .shl => tyC Γ yt fun ti => match ti.k with
    | .int kd' => kdC kd' fun c' => nK (kb kd) fun w => nK (tp kd') fun t' => .mk (slF kd w M t' (gI a c) (gI b c'))
    | _ => .no
  | .shr => tyC Γ yt fun ti => match ti.k with
    | .int kd' => kdC kd' fun c' => nK (kb kd) fun w => nK (tp kd) fun t => nK (tp kd') fun t' => .mk (srF kd w t t' (gI a c) (gI b c'))
    | _ => .no
noncomputable def binC (Γ : Ctx) (op : BinOp) (t : TypeId) (a b : GV) (yt : TypeId) : Cl OpF :=
  tyC Γ t fun ti => match ti.k with
  | .int kd => intC Γ op kd a b yt
  | .bool => (match op with
    | .eql => .mk (ebF true (gB a) (gB b))
    | .neq => .mk (ebF false (gB a) (gB b))
    | _ => .no)
  | _ => .mk (bnF Γ op t a b)
noncomputable def cvC (Γ : Ctx) (s d : TypeId) (x : Operand) : Cl OpF :=
  tyC Γ s fun ts => tyC Γ d fun td => match ts.k, td.k with
  | .int ks, .int kd => (oC x).go fun g => kdC ks fun c => nK (tp ks) fun T => nK (md kd) fun M =>
      iF (Nat.ble (md kd) (md ks)) (.mk (ciF (fun n => Nat.mod n M) kd (gI g c)))
        (nK (Nat.sub (md kd) (md ks)) fun D => .mk (ciF (fun n => iF (Nat.ble (Nat.succ n) T) (Nat.mod n M) (Nat.add n D)) kd (gI g c)))
  | _, _ => (aC x).go fun a => .mk (cvF Γ s d a)
noncomputable def biC (Γ : Ctx) (b : Builtin) (ts : List TypeId) (xs : List Operand) : Cl OpF :=
  match b, xs, ts with
  | .len, [x], t :: _ => tyC Γ t fun ti => (match ti.k with
    | .sl _ => (aC x).go fun a => .mk (lnF true a)
    | .str => (aC x).go fun a => .mk (lnF false a)
    | _ => (lvC xs).go fun l => .mk (biF Γ .len ts l))
  | .append, [x, y], t :: t2 :: _ => tyC Γ t fun ti => tyC Γ t2 fun ti2 => (match ti.k with
    | .sl e => tyC Γ e fun te => iF (notInt ti2.k) ((aC x).go fun a => (aC y).go fun b => .mk (apF e te.size te.bytes a b)) .no
    | _ => .no)
  | .copy, [x, y], t :: _ => tyC Γ t fun ti => (match ti.k with
    | .sl e => tyC Γ e fun te => (aC x).go fun a => (aC y).go fun b => .mk (cpF te.size a b)
    | _ => .no)
  | .min, _, _ => (lvC xs).go fun l => .mk (biF Γ .min ts l)
  | .max, _, _ => (lvC xs).go fun l => .mk (biF Γ .max ts l)
  | _, _, _ => .no
noncomputable def fldC {α : Type} (Γ : Ctx) (s : TypeId) (f : Nat) (k : Nat → TI → Cl α) : Cl α :=
  tyC Γ s fun ti => match ti.k with
  | .st fs => (match fs[f]? with | some (o, t) => nK o fun o => tyC Γ t fun ti => k o ti | none => .no)
  | _ => .no
noncomputable def opC (Γ : Ctx) (o : Op) : Cl OpF :=
  match o with
  | .move x | .assign x => (oC x).go fun g => .mk (mvF g)
  | .pick c a b => (bC' c).go fun c => (oC a).go fun a => (oC b).go fun b => .mk (pkF c a b)
  | .alloc t => tyC Γ t fun ti => tiC ti fun _ _ _ _ z => .mk (alF t z)
  | .box t x => (oC x).go fun g => .mk (bxF t g)
  | .build t ps => tyC Γ t fun ti => tiC ti fun k _ _ _ z => match k with
    | .st fs => (fillC Γ (fun i k => match fs[i]? with | some (o, t) => k o t | none => .no) ps.toList).go fun f => .mk (blF z f)
    | .ar _ e => tyC Γ e fun te => (fillC Γ (fun i k => k (Nat.mul i te.size) e) ps.toList).go fun f => .mk (blF z f)
    | _ => .no
  | .buildSlice t n ps => tyC Γ t fun ti => match ti.k with
    | .sl e => tyC Γ e fun te => iF (Nat.ble (Nat.mul n te.size) 16777216) (iF (Nat.ble n 1000000000000) ((fillC Γ (fun i k => k (Nat.mul i te.size) e) ps.toList).go fun f => nK n fun n => .mk (bsF e n (zerosR n te) f)) .no) .no
    | _ => .no
  | .load t x => tyC Γ t fun ti => (pC x).go fun p => iF ti.agg (.mk (ldG ti.size p)) (.mk (ldF p))
  | .store t x y => tyC Γ t fun ti => (pC x).go fun p => (oC y).go fun g => .mk (stF ti.size p g)
  | .nilCheck x => (pC x).go fun p => .mk (ncF p)
  | .binOp op t x y yt => (oC x).go fun a => (oC y).go fun b => binC Γ op t a b yt
  | .unOp op _ x => (match op with
    | .not => (bC' x).go fun g => .mk (ntF g)
    | op => (aC x).go fun a => .mk (unF op a))
  | .convert s d x => cvC Γ s d x
  | .sliceToArrayPointer t x => tyC Γ t fun ti => (aC x).go fun a => match ti.k with
    | .ar n _ => iF (Nat.ble 1 n) (nK n fun n => .mk (saF n a)) .no
    | _ => .no
  | .makeFunc f fs cs => (laC fs.toList).go fun a => (laC cs.toList).go fun b => .mk (mfF f a b)
  | .makeSlice t l c => tyC Γ t fun ti => match ti.k with
    | .sl e => tyC Γ e fun te => (xC l).go fun l => (xC c).go fun c => .mk (msF e te l c)
    | _ => .no
  | .slice t x lo hi mx => iF (iF hi.isNone mx.isNone true) (tyC Γ t fun ti => (bdC lo).go fun l => (bdC hi).go fun h => (bdC mx).go fun m => match ti.k with
    | .str => iF mx.isNone ((aC x).go fun a => .mk (slsF a l h)) .no
    | .sl e => tyC Γ e fun te => (aC x).go fun a => .mk (slcF te.size mx.isSome a l h m)
    | .ar n e => tyC Γ e fun te => iF (Nat.ble n 1000000000000) (nK n fun n => (pC x).go fun p => .mk (slaF n te.size p l h m)) .no
    | _ => .no) .no
  | .fieldAddr s x f => fldC Γ s f fun o ti => iF (Nat.ble 1 ti.size) ((pC x).go fun p => .mk (faF o p)) .no
  | .field s x f => fldC Γ s f fun o ti => (oC x).go fun g => iF ti.agg (.mk (fdG o ti.size g)) (.mk (fdF o g))
  | .indexAddr t x i => tyC Γ t fun ti => (xC i).go fun i => match ti.k with
    | .sl e => tyC Γ e fun te => (aC x).go fun a => .mk (ixF te.size a i)
    | .ar n e => tyC Γ e fun te => nK n fun n => (pC x).go fun p => .mk (ixA n te.size p i)
    | _ => .no
  | .index t x i => tyC Γ t fun ti => (xC i).go fun i => match ti.k with
    | .ar n e => tyC Γ e fun te => nK n fun n => (oC x).go fun g => iF te.agg (.mk (ivG n te.size g i)) (.mk (ivF n te.size g i))
    | .str => (aC x).go fun a => .mk (ivS a i)
    | _ => .no
  | .makeMap t r => tyC Γ t fun ti => match ti.k with
    | .mp _ _ => (match r with
      | none => .mk mmF
      | some x => (xC x).go fun g => .mk (mmX g))
    | _ => .no
  | .lookup t x i ok => (aC x).go fun a => (oC i).go fun g => .mk (lkF Γ t ok a g)
  | .mapUpdate t x i y => (aC x).go fun a => (oC i).go fun g => (oC y).go fun v => .mk (muF Γ t a g v)
  | .insert t x i y => (aC x).go fun a => (oC i).go fun g => (oC y).go fun v => .mk (muF Γ t a g v)
  | .mapEntry t x i => (aC x).go fun a => (oC i).go fun g => .mk (meF Γ t a g)
  | .entryStore _ x i y => (aC x).go fun a => (aC i).go fun n => (oC y).go fun v => .mk (esF a n v)
  | .extract x i => (ntC i).go fun f => (oC x).go fun g => .mk (exF f g)
  | .call c => match c.callee with
    | .value (.func g) => (lvC c.args.toList).go fun l => .mk (caF g l)
    | .value x => (aC x).go fun a => (lvC c.args.toList).go fun l => .mk (clF a l)
    | .builtin b => biC Γ b c.argTypes.toList c.args.toList
    | .invoke .. => .no
  | _ => .no
/-- What is not covered stops the run. -/
noncomputable def badF : OpF := fun _ _ _ _ => false
noncomputable def opB (Γ : Ctx) (o : Op) : Cl OpF := Cl.rec (motive := fun _ => Cl OpF) (fun f => .mk f) (.mk badF) (opC Γ o)
/-- The guard: which slot, and what it is to say. -/
noncomputable def gdC {α : Type} (os : List Oper) (g : Option (Nat × Bool)) (nog : Cl α) (yes : GB → Bool → Cl α) : Cl α :=
  match g with
  | none => nog
  | some (j, w) => match os[j]? with
    | none => .no
    | some p => match p.dst with
      | none => .no
      | some s => (bC' (.tmp s)).go fun g => yes g w
noncomputable def ordC (Γ : Ctx) (os : List Oper) : List Oper → Cl RgF
  | [] => .mk skR
  | o :: r => (opB Γ o.op).go fun f => (dC o.dst).go fun p => (gdC os o.guard (.mk (opR f p)) fun g w => .mk (gdR w g (opR f p) (unR p))).go fun a => (ordC Γ os r).go fun b => .mk (sqR a b)
noncomputable def footC {α : Type} (o : Op) (k : FtF → Bool → Cl α) : Cl α :=
  match o with
  | .alloc _ | .box .. | .buildSlice .. | .makeSlice .. | .makeMap .. => k ft0 false
  | .load _ x => (aC x).go fun a => k (ft1 a) false
  | .store _ x _ => (aC x).go fun a => k (ft1 a) true
  | .convert _ _ x => (aC x).go fun a => k (ft1 a) true
  | .lookup _ x _ _ => (aC x).go fun a => k (ft1 a) false
  | .mapUpdate _ x _ _ | .insert _ x _ _ | .mapEntry _ x _ | .entryStore _ x _ _ => (aC x).go fun a => k (ft1 a) true
  | .call c => match c.callee, c.args.toList with
    | .builtin .len, [x] => (aC x).go fun a => k (ft1 a) false
    | .builtin .append, [x, y] => (aC x).go fun a => (aC y).go fun b => k (ft2 a b) true
    | .builtin .copy, [x, y] => (aC x).go fun a => (aC y).go fun b => k (ft2 a b) true
    | _, _ => .no
  | _ => .no
noncomputable def drwC (Γ : Ctx) (os : List Oper) (rs : List (Nat × Nat × Oper)) : List (Nat × Nat × Oper) → Cl DrF
  | [] => .mk d0
  | (i, bi, o) :: r => (opB Γ o.op).go fun f => (dC o.dst).go fun p => nK i fun i => nK bi fun bi =>
      (iF (pureB o.op) (.mk (dPu f p)) (iF (callB o.op) (iF (totB rs i bi) (.mk (dTo i bi f p)) (.mk (dFr i bi f p))) (Cl.rec (motive := fun _ => Cl DrF) (fun f => .mk f) (.mk dBd) (footC o.op fun ft ww => .mk (dMe i bi ww ft f p))))).go fun a =>
      (gdC os o.guard (.mk a) fun g w => .mk (dGd w g a p)).go fun a => (drwC Γ os rs r).go fun b => .mk (dSq a b)
noncomputable def cdC (Γ : Ctx) : Code → Cl CdF
  | .skip => .mk cSk
  | .label _ => .mk cSk
  | .exit i => nK i fun i => .mk (cEx i)
  | .ret => .mk cRt
  | .seq a b => (cdC Γ a).go fun f => (cdC Γ b).go fun g => .mk (cSq f g)
  | .cond c a b => (bC' c).go fun c => (cdC Γ a).go fun f => (cdC Γ b).go fun g => .mk (cIf c f g)
  | .block j a => nK j fun j => (cdC Γ a).go fun f => .mk (cBl j f)
  | .loop a => (cdC Γ a).go fun f => .mk (cLp f)
  | .scope a => cdC Γ a
  | .region _ ops d => iF d (iF (slotsB ops.toList) ((drwC Γ ops.toList (rows ops.toList) (rows ops.toList)).go fun f => .mk (cRg (drR f))) .no) ((ordC Γ ops.toList ops.toList).go fun f => .mk (cRg f))
  | _ => .mk cBd
noncomputable def rsC (Γ : Ctx) : List ResultVar → Cl RsF
  | [] => .mk rs0
  | .tmp t :: r => (oC (.tmp t)).go fun g => (rsC Γ r).go fun f => .mk (rsT g f)
  | .cell t ty :: r => (pC (.tmp t)).go fun p => (rsC Γ r).go fun f => tyC Γ ty fun ti => iF ti.agg (.mk (rsG ti.size p f)) (.mk (rsL p f))
/-- So many arguments at the most, from the i-th slot on. -/
noncomputable def agC : Nat → Nat → Cl AgF
  | 0, _ => .mk ag0
  | n + 1, i => (dC (some i)).go fun p => (agC n (Nat.succ i)).go fun f => .mk (ag1 p f)
def need : Code → Nat
  | .seq a b => Nat.succ (Nat.add (need a) (need b))
  | .cond _ a b => Nat.succ (Nat.add (need a) (need b))
  | .block _ a => Nat.succ (need a)
  | .loop a => Nat.add (need a) 1000001
  | .scope a => Nat.succ (need a)
  | _ => 1
noncomputable def fnK (Γ : Ctx) (fi : FI) : Cl FnF := iF (Nat.ble (need fi.body) 1000000000) (
  (agC (iF (Nat.ble fi.n 16) fi.n 16) 0).go fun a => (cdC Γ fi.body).go fun b => (rsC Γ fi.res).go fun r => .mk (fnX a b r)) .no
noncomputable def tabK (Γ : Ctx) : List Nat → Tr FnF → (Tr FnF → Bool) → Bool
  | [], t, k => k t
  | f :: fs, t, k => tG (tG false Γ.fn f fun fi => Cl.rec (motive := fun _ => Bool) (fun F => tP 64 t f (some F) fun t => tabK Γ fs t k) (tabK Γ fs t k) (fnK Γ fi))
      Γ.con f (fun c => tP 64 t f (some (fnC c)) fun t => tabK Γ fs t k)
end Go.S
