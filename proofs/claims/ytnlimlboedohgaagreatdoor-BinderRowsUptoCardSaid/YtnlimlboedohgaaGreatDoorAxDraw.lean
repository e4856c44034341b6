/-
  Regions whose order is drawn: the reckoning.
-/
import Derived.Test.YtnlimlboedohgaaGreatDoorAxRun
namespace Go.Proofs.YtnlimlboedohgaaGreatDoor.Ax
open Go.RowKit
set_option linter.unusedVariables false
set_option linter.unusedSimpArgs false

def eqV : Value -> Value -> Bool
 | .bool a, .bool b => a == b
 | .int j (.ofNat a), .int k (.ofNat b) => (if j = k then true else false) && Nat.beq a b
 | .int j (.negSucc a), .int k (.negSucc b) => (if j = k then true else false) && Nat.beq a b
 | .pointer none, .pointer none => true
 | .slice none 0 0, .slice none 0 0 => true
 | .map none, .map none => true
 | .nilFunc, .nilFunc => true
 | .nilIface, .nilIface => true
 | .func (.func f) a b, .func (.func h) c d => Nat.beq f h && (match a.toList, b.toList, c.toList, d.toList with
  | [], [], [], [] => true
  | _, _, _, _ => false)
 | .tuple a, .tuple b => (match a.toList, b.toList with
  | [], [] => true
  | _, _ => false)
 | _, _ => false
mutual
def eqRV : RV -> RV -> Bool
 | .lit u, .lit v => eqV u v
 | .str l, .str m => eqLN l m
 | .opq i, .opq j => Nat.beq i j
 | .ptr a b c, .ptr d e f => Nat.beq a d && Nat.beq b e && Nat.beq c f
 | .sl a b c x y, .sl d e f u v => Nat.beq a d && Nat.beq b e && Nat.beq c f && Nat.beq x u && Nat.beq y v
 | .s0 a b c, .s0 d e f => Nat.beq a d && Nat.beq b e && Nat.beq c f
 | .se, .se => true
 | .mp a, .mp b => Nat.beq a b
 | .agg l, .agg m => eqRVs l m
 | .tup l, .tup m => eqRVs l m
 | .ifc t r, .ifc u s => Nat.beq t u && eqRV r s
 | .clo f a l, .clo h b m => Nat.beq f h && eqRVs a b && eqRVs l m
 | _, _ => false
def eqRVs : List RV -> List RV -> Bool
 | [], [] => true
 | r :: l, s :: m => eqRV r s && eqRVs l m
 | _, _ => false
end
/-- whom an operation waits for, directly or through others -/
def maskOf (mk : Tr Nat) (i : Nat) : List Edge -> Nat -> Option Nat
 | [], m => some m
 | e :: es, m => bif Region.binds .any e then (bif Nat.ble (e.on + 1) i then maskOf mk i es (m ||| 2 ^ e.on ||| (mk.get e.on).getD 0) else none) else maskOf mk i es m
def masksGo : List Oper -> Nat -> Tr Nat -> Option (Tr Nat)
 | [], _, mk => some mk
 | o :: l, i, mk => match maskOf mk i o.after.toList 0 with
  | some m => masksGo l (i + 1) (mk.set i m)
  | none => none
/-- every two operations wait for one another, or have nothing to do with one another -/
def apartRow (ops : Array Oper) (m : Nat) (o : Oper) : List Oper -> Nat -> Bool
 | [], _ => true
 | p :: l, i => (m.testBit i || p.apart ops o) && apartRow ops m o l (i + 1)
def apartAll (ops : Array Oper) (mk : Tr Nat) : List Oper -> Nat -> Bool
 | [], _ => true
 | o :: l, j => apartRow ops ((mk.get j).getD 0) o (ops.toList.take j) 0 && apartAll ops mk l (j + 1)
/-- what of a region needs no state -/
def statOf (P : Program) (ops : Array Oper) : Option (Tr Nat) :=
 match masksGo ops.toList 0 .leaf with
 | some mk => if apartAll ops mk ops.toList 0 && P.follows .mixedOrders then some mk else none
 | none => none
inductive Kd where
 | flat
 | read (t : Tr RV) (o : Oper)
 | alloc (G : Nat) (ob : OB)
 | eff (h : Hp) (nx : Nat)
/-- what an operation did: the newest stands first -/
structure Rec where
 dst : Option Tmp
 r : RV
 kd : Kd
/-- the last change of memory among chosen operations: who waits for whom there, and the memory -/
def stE (M : Nat -> Nat) (S : Hp) (nx : Nat) (L : Nat -> Bool) : List Rec -> Nat × Hp × Nat
 | [] => (0, S, nx)
 | q :: l => match q.kd with
  | .eff h n => bif L l.length then (M l.length, h, n) else stE M S nx L l
  | _ => stE M S nx L l
/-- the memory with chosen new blocks -/
def htA (L : Nat -> Bool) (em : Nat) (S : Hp) : List Rec -> Hp
 | [] => S
 | q :: l => match q.kd with
  | .alloc G ob => bif L l.length && !em.testBit l.length then (htA L em S l).set G ob else htA L em S l
  | _ => htA L em S l
def lastEff : List Rec -> Option Nat
 | [] => none
 | q :: l => match q.kd with
  | .eff _ _ => some l.length
  | _ => lastEff l
def chained (m : Nat) : Option Nat -> Bool
 | none => true
 | some e => m.testBit e
def genD (P : Program) (call : CallR) (ops : Array Oper) (mk : Tr Nat) (S0 : Hp) (base n : Nat) : List Oper -> List Rec -> Tr RV -> Option (List Rec × Tr RV)
 | [], rv, t => some (rv, t)
 | o :: l, rv, t =>
  let M := fun j => (mk.get j).getD 0
  match wantedR t ops o with
  | some false => putR t n o.dst (.lit undef) fun t' => genD P call ops mk S0 base n l (⟨o.dst, .lit undef, .flat⟩ :: rv) t'
  | some true => match clsR P o with
   | .pure => match pureR P t o with
    | some r => putR t n o.dst r fun t' => genD P call ops mk S0 base n l (⟨o.dst, r, .flat⟩ :: rv) t'
    | none => none
   | .read => match stE M S0 (base + ops.size) (fun _ => true) rv with
    | (em, S, nx) => match readR P t (htA (fun a => (M rv.length).testBit a) em S rv) o with
     | some r => putR t n o.dst r fun t' => genD P call ops mk S0 base n l (⟨o.dst, r, .read t o⟩ :: rv) t'
     | none => none
   | .alloc => match S0.get (base + rv.length) with
    | some _ => none
    | none => forceN (base + rv.length) fun G => match allocR P t G o with
     | some (r, ob) => putR t n o.dst r fun t' => genD P call ops mk S0 base n l (⟨o.dst, r, .alloc G ob⟩ :: rv) t'
     | none => none
   | .eff => match stE M S0 (base + ops.size) (fun _ => true) rv with
    | (em, S, nx) => bif chained (M rv.length) (lastEff rv) then (match effR P call t (htA (fun a => (M rv.length).testBit a) em S rv) nx o with
     | some (.ret r, h', nx') => putR t n o.dst r fun t' => genD P call ops mk S0 base n l (⟨o.dst, r, .eff h' nx'⟩ :: rv) t'
     | _ => none) else none
  | none => none
/-- none of the later changes of memory stands before -/
def noneLater (m : Nat) : List Rec -> Nat -> Bool
 | [], _ => true
 | q :: l, k => bif Nat.beq l.length k then true else (match q.kd with
  | .eff _ _ => !m.testBit l.length
  | _ => true) && noneLater m l k
def sameRead (P : Program) (t : Tr RV) (o : Oper) (h : Hp) (r : RV) : Bool :=
 match readR P t h o with
 | some r' => eqRV r' r
 | none => false
/-- a read sees the same behind every change of memory that it may come behind -/
def readAt (P : Program) (M : Nat -> Nat) (S0 : Hp) (rv : List Rec) (i : Nat) (t : Tr RV) (o : Oper) (r : RV) : List Rec -> Bool
 | [] => !noneLater (M i) rv rv.length || sameRead P t o (htA (fun a => (M i).testBit a) 0 S0 rv) r
 | q :: l => (match q.kd with
  | .eff h _ => (M l.length).testBit i || !noneLater (M i) rv l.length || sameRead P t o (htA (fun a => (M i).testBit a) (M l.length) h rv) r
  | _ => true) && readAt P M S0 rv i t o r l
def readsOk (P : Program) (M : Nat -> Nat) (S0 : Hp) (rv : List Rec) : List Rec -> Bool
 | [] => true
 | q :: l => (match q.kd with
  | .read t o => readAt P M S0 rv l.length t o q.r rv
  | _ => true) && readsOk P M S0 rv l
def drawR (P : Program) (call : CallR) : DrawR := fun ops s =>
 match statOf P ops with
 | none => none
 | some mk => match genD P call ops mk s.h s.nx s.n ops.toList [] s.tm with
  | none => none
  | some (rv, t) =>
   let M := fun j => (mk.get j).getD 0
   bif readsOk P M s.h rv rv then (match stE M s.h (s.nx + ops.size) (fun _ => true) rv with
    | (em, S, nx) => match htA (fun _ => true) em S rv with
     | .leaf => some (.normal, ⟨t, s.n, .leaf, nx, s.ds⟩)
     | .node v l r => some (.normal, ⟨t, s.n, .node v l r, nx, s.ds⟩)) else none
end Go.Proofs.YtnlimlboedohgaaGreatDoor.Ax
