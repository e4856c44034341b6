/-
  The operations on relative values, to be reckoned.
-/
import Derived.Test.YthkhdbfohaaojaaGreatDoorAxApp
namespace Go.Proofs.YthkhdbfohaaojaaGreatDoor.Ax
open Go.RowKit
set_option linter.unusedVariables false
set_option linter.unusedSimpArgs false

/-! ### Operations that read no memory -/
/-- a computation that neither reads nor writes memory, run -/
def evalP {α : Type} (P : Program) : Sem α → Option α
  | .pure a => some a
  | .program k => evalP P (k P)
  | .mark _ k => evalP P k
  | _ => none
def flatO (P : Program) (m : Sem Value) : Option RV :=
  match evalP P m with
  | some v => forceV v some
  | none => none
mutual
/-- a value known whole -/
def litV : RV → Option Value
  | .lit v => some v
  | .str l => some (.string (ofCodes l))
  | .agg l => match litL l with
    | some vs => some (.agg vs.toArray)
    | none => none
  | .ifc t r => match litV r with
    | some v => some (.iface t v)
    | none => none
  | _ => none
def litL : List RV → Option (List Value)
  | [] => some []
  | r :: l => match litV r with
    | some v => match litL l with
      | some vs => some (v :: vs)
      | none => none
    | none => none
end
def eqLN : List Nat → List Nat → Bool
  | [], [] => true
  | x :: l, y :: m => bif Nat.beq x y then eqLN l m else false
  | _, _ => false
def ltLN : List Nat → List Nat → Bool
  | _, [] => false
  | [], _ :: _ => true
  | x :: l, y :: m => bif Nat.ble (x + 1) y then true else bif Nat.beq x y then ltLN l m else false
def appN {β : Type} : List Nat → List Nat → (List Nat → β) → β
  | [], m, k => k m
  | x :: l, m, k => appN l m fun r => k (x :: r)
def takeN {β : Type} : Nat → List Nat → (List Nat → Option β) → Option β
  | 0, _, k => k []
  | n + 1, x :: l, k => takeN n l fun r => k (x :: r)
  | _ + 1, [], _ => none
def dropN : List Nat → Nat → Option (List Nat)
  | l, 0 => some l
  | [], _ + 1 => none
  | _ :: l, n + 1 => dropN l n
def nthN : List Nat → Nat → Option Nat
  | [], _ => none
  | x :: _, 0 => some x
  | _ :: l, n + 1 => nthN l n
def boolR (b : Bool) : Option RV := match b with
  | true => some (.lit (.bool true))
  | false => some (.lit (.bool false))
/-- operators on strings -/
def strR (op : BinOp) (l m : List Nat) : Option RV :=
  match op with
  | .add => bif Nat.ble (l.length + m.length) 1000000 then appN l m fun r => some (.str r) else none
  | .eql => boolR (eqLN l m)
  | .neq => boolR (!eqLN l m)
  | .lss => boolR (ltLN l m)
  | .leq => boolR (!ltLN m l)
  | .gtr => boolR (ltLN m l)
  | .geq => boolR (!ltLN l m)
  | _ => none
/-- is it nil -/
def nilR (P : Program) (t : TypeId) (r n : RV) : Bool :=
  match r, n with
  | .ptr _ _ _, .lit (.pointer none) => match P.underlying t with | some (.pointer _) => true | _ => false
  | .sl _ _ _ _ _, .lit (.slice none 0 0) | .s0 _ _ _, .lit (.slice none 0 0) | .se, .lit (.slice none 0 0) => match P.underlying t with | some (.slice _) => true | _ => false
  | .clo _ _ _, .lit .nilFunc => match P.underlying t with | some (.func _ _ _) => true | _ => false
  | .ifc _ _, .lit .nilIface => match P.underlying t with | some (.interface _) => true | _ => false
  | .mp _, .lit (.map none) => match P.underlying t with | some (.map _ _) => true | _ => false
  | _, _ => false
/-- two own addresses in one block -/
def sameR (P : Program) (t : TypeId) (a b : RV) : Option Bool :=
  match a, b with
  | .ptr G e off, .ptr G' e' off' => bif Nat.beq G G' && Nat.beq e e' then (match P.underlying t with
    | some (.pointer el) => match P.info? el with
      | some i => bif Nat.ble 1 i.size then some (Nat.beq off off') else none
      | none => none
    | _ => none) else none
  | _, _ => none
def binR (P : Program) (op : BinOp) (t : TypeId) (x y : Operand) (a b : RV) : Option RV :=
  match a, b with
  | .lit u, .lit v => flatO P (do eqGuard op t x y u v; binOp op t u v)
  | .str l, .str m => strR op l m
  | a, b => match op with
    | .eql => bif nilR P t a b || nilR P t b a then some (.lit (.bool false)) else match sameR P t a b with
      | some q => boolR q
      | none => match litV a, litV b with
        | some u, some v => flatO P (do eqGuard op t x y u v; binOp op t u v)
        | _, _ => none
    | .neq => bif nilR P t a b || nilR P t b a then some (.lit (.bool true)) else match sameR P t a b with
      | some q => boolR (!q)
      | none => match litV a, litV b with
        | some u, some v => flatO P (do eqGuard op t x y u v; binOp op t u v)
        | _, _ => none
    | _ => none
def fillR {β : Type} (place : Nat → Option (Nat × Nat)) : List (Nat × RV) → List RV → (List RV → Option β) → Option β
  | [], cs, k => k cs
  | (i, r) :: rest, cs, k => match place i with
    | none => none
    | some (off, size) => match cellsR r with
      | none => none
      | some l => bif Nat.beq l.length size then overO cs off l fun cs' => fillR place rest cs' k else none
def placesR (P : Program) (fields : Array Field) : Option (Array (Nat × Nat)) := evalP P (fields.mapM fun f => do pure (f.offset, ← sizeOf f.type))
def buildR (P : Program) (t : TypeId) (parts : List (Nat × RV)) : Option RV :=
  match P.info? t, P.underlying t with
  | some i, some (.struct fields) => match i.zero with
    | some z => match placesR P fields with
      | some places => fillR (places[·]?) parts (z.cells.toList.map ofV) fun l => some (.agg l)
      | none => none
    | none => none
  | some i, some (.array _ elem) => match i.zero, P.info? elem with
    | some z, some j => fillR (fun k => some (k * j.size, j.size)) parts (z.cells.toList.map ofV) fun l => some (.agg l)
    | _, _ => none
  | _, _ => none
def boundR (d : Nat) : Option RV → Option Nat
  | none => some d
  | some (.lit (.int _ (.ofNat n))) => some n
  | some _ => none
/-- x[lo:hi], x[lo:hi:max] -/
def sliceR (P : Program) (t : TypeId) (r : RV) (lo hi mx : Option RV) : Option RV :=
  match P.underlying t with
  | some (.slice e) => match P.info? e with
    | some i => match r with
      | .sl G m off len sz => match boundR 0 lo, boundR len hi with
        | some l, some k => bif Nat.beq sz i.size && Nat.ble l k && Nat.ble k len then (match mx with
          | none => bif Nat.ble (l + 1) len || Nat.beq l 0 then forceN (off + l * sz) fun o => forceN (k - l) fun n => some (.sl G m o n sz) else some .se
          | some (.lit (.int _ (.ofNat x))) => (match hi with
            | some _ => bif Nat.ble k x && Nat.ble x len then (bif Nat.beq x l then some (.s0 G m off) else forceN (off + l * sz) fun o => forceN (k - l) fun n => some (.sl G m o n sz)) else none
            | none => none)
          | some _ => none) else none
        | _, _ => none
      | .s0 G m off => match boundR 0 lo, boundR 0 hi, mx with
        | some 0, some 0, none => some (.s0 G m off)
        | _, _, _ => none
      | .se => match boundR 0 lo, boundR 0 hi, mx with
        | some 0, some 0, none => some .se
        | _, _, _ => none
      | .lit (.slice none 0 0) => match boundR 0 lo, boundR 0 hi with
        | some l, some k => bif Nat.beq l 0 && Nat.beq k 0 then (match mx with
          | none => some (.lit (.slice none 0 0))
          | some (.lit (.int _ (.ofNat x))) => bif Nat.beq x 0 then (match hi with
            | some _ => some (.lit (.slice none 0 0))
            | none => none) else none
          | _ => none) else none
        | _, _ => none
      | _ => none
    | none => none
  | some .string => match r, mx with
    | .str s, none => match boundR 0 lo, boundR s.length hi with
      | some l, some k => bif Nat.ble l k then (match dropN s l with
        | some s' => takeN (k - l) s' fun r => some (.str r)
        | none => none) else none
      | _, _ => none
    | _, _ => none
  | _ => none
def lenR (P : Program) (t : TypeId) (r : RV) : Option RV :=
  match P.underlying t, r with
  | some .string, .str l => forceN l.length fun n => some (.lit (.int .i64 (.ofNat n)))
  | some (.slice _), .sl _ _ _ n _ => some (.lit (.int .i64 (.ofNat n)))
  | some (.slice _), .s0 _ _ _ => some (.lit (.int .i64 (.ofNat 0)))
  | some (.slice _), .se => some (.lit (.int .i64 (.ofNat 0)))
  | some (.slice _), .lit (.slice none 0 0) => some (.lit (.int .i64 (.ofNat 0)))
  | some (.array n _), _ => some (.lit (.int .i64 (.ofNat n)))
  | some (.map _ _), .lit (.map none) => some (.lit (.int .i64 (.ofNat 0)))
  | _, _ => none
def ifaceR (P : Program) (t : TypeId) (r : RV) : Option RV :=
  match P.underlying t with
  | some (.interface _) => none
  | some _ => some (.ifc t r)
  | none => none
def isAggR : RV → Bool
  | .agg _ => true
  | .lit (.agg _) => true
  | _ => false
def aggFieldR (P : Program) (t : TypeId) (r : RV) (f : Nat) : Option RV :=
  match P.underlying t, cellsR r with
  | some (.struct fields), some cs => match fields[f]? with
    | some fl => match P.underlying fl.type, P.info? fl.type with
      | some d, some i => if d.isRow then takeO i.size (dropR cs fl.offset) fun l => some (.agg l) else nthR cs fl.offset
      | _, _ => none
    | none => none
  | _, _ => none
def idxR (P : Program) (t : TypeId) (r ix : RV) : Option RV :=
  match P.underlying t, r, ix with
  | some .string, .str l, .lit (.int _ (.ofNat n)) => match nthN l n with
    | some b => some (.lit (.int .u8 (.ofNat b)))
    | none => none
  | some (.array len e), .agg cs, .lit (.int _ (.ofNat n)) => match P.underlying e, P.info? e with
    | some d, some i => bif Nat.ble (n + 1) len then (if d.isRow then takeO i.size (dropR cs (n * i.size)) fun l => some (.agg l) else nthR cs (n * i.size)) else none
    | _, _ => none
  | _, _, _ => none
def convR (P : Program) (src dst : TypeId) (r : RV) : Option RV :=
  match r with
  | .lit (.int k n) => flatO P (convert src dst (.int k n))
  | .str l => match P.underlying src, P.underlying dst with
    | some .string, some .string => some (.str l)
    | _, _ => none
  | _ => none
def assertR (P : Program) (r : RV) (asserted : TypeId) (ok : Bool) : Option RV :=
  match P.underlying asserted, r with
  | some (.interface _), _ => none
  | some _, .ifc t v => bif Nat.beq t asserted then (match ok with
    | true => some (.tup [v, .lit (.bool true)])
    | false => some v) else none
  | _, _ => none
def extractR : RV → Nat → Option RV
  | .tup l, i => nthR l i
  | .lit (.tuple vs), i => match vs[i]? with
    | some v => some (ofV v)
    | none => none
  | _, _ => none
def nilCheckR : RV → Option RV
  | .ptr G e off => some (.ptr G e off)
  | .clo f a l => some (.clo f a l)
  | .lit (.pointer (some a)) => some (.lit (.pointer (some a)))
  | .lit (.func (.func f) a b) => some (.lit (.func (.func f) a b))
  | _ => none
def flat2 (P : Program) (m : Value → Value → Sem Value) (a b : RV) : Option RV :=
  match litV a, litV b with
  | some u, some v => flatO P (m u v)
  | _, _ => none
def pureR (P : Program) (t : Tr RV) (o : Oper) : Option RV :=
  match o.op with
  | .move x | .assign x => some (evalR t x)
  | .pick c a b => match evalR t c with
    | .lit (.bool true) => some (evalR t a)
    | .lit (.bool false) => some (evalR t b)
    | _ => none
  | .build ty parts => buildR P ty (parts.toList.map fun p => (p.1, evalR t p.2))
  | .nilCheck x => nilCheckR (evalR t x)
  | .binOp op ty x y _ => binR P op ty x y (evalR t x) (evalR t y)
  | .unOp op _ x => match litV (evalR t x) with
    | some v => flatO P (Op.unary op v)
    | none => none
  | .convert src dst x => convR P src dst (evalR t x)
  | .makeInterface ty x => ifaceR P ty (evalR t x)
  | .makeFunc (.func f) first captured => some (.clo f (first.toList.map (evalR t)) (captured.toList.map (evalR t)))
  | .slice ty x lo hi mx => sliceR P ty (evalR t x) (lo.map (evalR t)) (hi.map (evalR t)) (mx.map (evalR t))
  | .fieldAddr s x f => fieldR P s (evalR t x) f
  | .field ty x f => bif isAggR (evalR t x) then aggFieldR P ty (evalR t x) f else none
  | .indexAddr ty x ix => indexR P ty (evalR t x) (evalR t ix)
  | .index ty x ix => idxR P ty (evalR t x) (evalR t ix)
  | .typeAssert x xt as ok => assertR P (evalR t x) as ok
  | .extract x i => extractR (evalR t x) i
  | .call ⟨.builtin b, args, argTypes⟩ => match b, args.toList, argTypes.toList with
    | .len, [x], [ty] => lenR P ty (evalR t x)
    | .unsafeSliceData, [x], _ => match evalR t x with
      | .sl G e off n s => bif Nat.ble 1 n then some (.ptr G e off) else none
      | .lit (.slice none 0 0) => some (.lit (.pointer none))
      | _ => none
    | .min, [x, y], _ => flat2 P (fun u v => Builtin.min_ argTypes o.type #[u, v]) (evalR t x) (evalR t y)
    | .max, [x, y], _ => flat2 P (fun u v => Builtin.max_ argTypes o.type #[u, v]) (evalR t x) (evalR t y)
    | _, _, _ => none
  | _ => none

/-! ### Operations that make one block: what is in it, and what is handed back -/
def rowZeros (z : Array Value) (n : Nat) : Array Value := (Array.range n).map (z[· % z.size]!)
def zeroCs (P : Program) (e : TypeId) (n : Nat) : Option (List RV) :=
  match P.info? e with
  | some i => match i.zero with
    | some z => bif Nat.ble (n * i.size) 10000 then some ((rowZeros z.cells (n * i.size)).toList.map ofV) else none
    | none => none
  | none => none
def forceRs {β : Type} : List RV → (List RV → β) → β
  | [], k => k []
  | .lit v :: l, k => forceV v fun r => forceRs l fun l => k (r :: l)
  | r :: l, k => forceRs l fun l => k (r :: l)
/-- the cells, their type, and the value in terms of the new group -/
def allocR (P : Program) (t : Tr RV) (G : Nat) (o : Oper) : Option (RV × OB) :=
  match o.op with
  | .alloc ty => match zerosR P ty with
    | some l => some (.ptr G 0 0, .cells ty false 1 [(0, l)])
    | none => none
  | .box ty x => match cellsR (evalR t x) with
    | some l => some (.ptr G 0 0, .cells ty false 1 [(0, l)])
    | none => none
  | .buildSlice ty len parts => match P.underlying ty with
    | some (.slice e) => match P.info? e, zeroCs P e len with
      | some i, some z => fillR (fun k => some (k * i.size, i.size)) (parts.toList.map fun p => (p.1, evalR t p.2)) z fun cs => bif Nat.beq (len * i.size) 0 then (bif Nat.beq len 0 then some (.s0 G 0 0, .cells e false 1 [(0, cs)]) else none) else some (.sl G 0 0 len i.size, .cells e false 1 [(0, cs)])
      | _, _ => none
    | _ => none
  | .makeSlice ty l c => match P.underlying ty, evalR t l, evalR t c with
    | some (.slice e), .lit (.int _ (.ofNat n)), .lit (.int _ (.ofNat m)) => match P.info? e, zeroCs P e m with
      | some i, some z => bif Nat.ble n m && Nat.ble 1 i.size && Nat.ble (m * i.bytes) 1000000 && Nat.ble m 1000000 then (bif Nat.beq m 0 then some (.s0 G 0 0, .cells e false 1 [(0, z)]) else some (.sl G 0 0 n i.size, .cells e false 1 [(0, z)])) else none
      | _, _ => none
    | _, _, _ => none
  | .convert src dst x => match P.underlying src, P.underlying dst, evalR t x with
    | some .string, some (.slice e), .str l => match P.underlying e with
      | some (.int .u8) => forceRs (l.map fun n => .lit (.int .u8 (.ofNat n))) fun cs => forceN l.length fun n => some (.sl G 0 0 n 1, .cells e true 1 [(0, cs)])
      | _ => none
    | _, _, _ => none
  | _ => none
end Go.Proofs.YthkhdbfohaaojaaGreatDoor.Ax
