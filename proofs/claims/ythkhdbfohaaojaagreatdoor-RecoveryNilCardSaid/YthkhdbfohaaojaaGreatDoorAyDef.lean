/-
  A lean reckoning for the kernel: operations.
-/
import Derived.Test.YthkhdbfohaaojaaGreatDoorAxOrc
set_option linter.unusedVariables false
set_option linter.unusedSimpArgs false
namespace Go.Proofs.YthkhdbfohaaojaaGreatDoor.Ax
open Go Go.RowKit
abbrev Ans := RE × Hp × Nat
/-! ### trees, quickly -/
noncomputable def getF {α : Type} (t : Tr α) : Nat → Option α :=
  Tr.rec (fun _ => none) (fun v _ _ ihl ihr n => Nat.rec v (fun m _ => Nat.rec (ihl (Nat.div m 2)) (fun _ _ => ihr (Nat.div m 2)) (Nat.mod m 2)) n) t
noncomputable def leafF {α β : Type} (x : α) : Nat → Nat → (Tr α → β) → β
  | 0, _, k => k .leaf
  | f + 1, n, k => Nat.rec (k (.node (some x) .leaf .leaf)) (fun m _ => Nat.rec (leafF x f (Nat.div m 2) fun l => k (.node none l .leaf)) (fun _ _ => leafF x f (Nat.div m 2) fun r => k (.node none .leaf r)) (Nat.mod m 2)) n
noncomputable def setF {α β : Type} (x : α) (t : Tr α) : Nat → (Tr α → β) → β :=
  Tr.rec (fun n k => leafF x (Nat.succ n) n k) (fun v l r ihl ihr n k => Nat.rec (k (.node (some x) l r)) (fun m _ => Nat.rec (ihl (Nat.div m 2) fun l' => k (.node v l' r)) (fun _ _ => ihr (Nat.div m 2) fun r' => k (.node v l r')) (Nat.mod m 2)) n) t
/-- where a number lies in a tree -/
inductive Pa where
  | h
  | l (p : Pa)
  | r (p : Pa)
noncomputable def pathGo : Nat → Nat → Pa
  | 0, _ => .h
  | f + 1, n => bif Nat.beq n 0 then .h else bif Nat.beq (n % 2) 1 then .l (pathGo f (n / 2)) else .r (pathGo f (n / 2 - 1))
noncomputable def pathOf (n : Nat) : Pa := pathGo (n + 1) n
abbrev undR : RV := .lit undef
noncomputable def getP {β : Type} (p : Pa) : Tr RV → (RV → β) → β :=
  Pa.rec (fun t k => Tr.rec (k undR) (fun v _ _ _ _ => Option.rec (k undR) k v) t) (fun _ ih t k => Tr.rec (k undR) (fun _ l _ _ _ => ih l k) t) (fun _ ih t k => Tr.rec (k undR) (fun _ _ r _ _ => ih r k) t) p
noncomputable def setP {β : Type} (x : RV) (p : Pa) : Tr RV → (Tr RV → β) → β :=
  Pa.rec (fun t k => Tr.rec (k (.node (some x) .leaf .leaf)) (fun _ l r _ _ => k (.node (some x) l r)) t)
    (fun _ ih t k => Tr.rec (ih .leaf fun l' => k (.node none l' .leaf)) (fun v l r _ _ => ih l fun l' => k (.node v l' r)) t)
    (fun _ ih t k => Tr.rec (ih .leaf fun r' => k (.node none .leaf r')) (fun v l r _ _ => ih r fun r' => k (.node v l r')) t) p
inductive Od where
  | t (p : Pa)
  | c (r : RV)
noncomputable def getO {β : Type} (o : Od) (t : Tr RV) (k : RV → β) : β := Od.rec (fun p => getP p t k) k o
noncomputable def cOd : Operand → Od
  | .tmp i => .t (pathOf i)
  | .const v => forceV v .c
  | .global b => .c (.lit (.pointer (some ⟨b, 0, none⟩)))
  | .func f => .c (.lit (.func (.func f) #[] #[]))
noncomputable def getL {β : Type} (l : List Od) (t : Tr RV) : (List RV → β) → β := List.rec (fun k => k []) (fun o _ ih k => getO o t fun r => ih fun l => k (r :: l)) l
noncomputable def cOds : List Operand → List Od
  | [] => []
  | x :: l => cOd x :: cOds l
/-! ### what a value is -/
noncomputable def natK {β : Type} (v : RV) (k : IntKind → Nat → β) (e : β) : β := match v with
  | .lit (.int d (.ofNat n)) => k d n
  | _ => e
noncomputable def boolK {β : Type} (v : RV) (k : Bool → β) (e : β) : β := match v with
  | .lit (.bool b) => k b
  | _ => e
noncomputable def strK {β : Type} (v : RV) (k : List Nat → β) (e : β) : β := match v with
  | .str l => k l
  | _ => e
noncomputable def ptrK {β : Type} (v : RV) (k : Nat → Nat → Nat → β) (e : β) : β := match v with
  | .ptr G m off => k G m off
  | _ => e
noncomputable def slK {β : Type} (v : RV) (k : Nat → Nat → Nat → Nat → Nat → β) (e : β) : β := match v with
  | .sl G m off len sz => k G m off len sz
  | _ => e
noncomputable def tupK {β : Type} (v : RV) (k : List RV → β) (e : β) : β := match v with
  | .tup l => k l
  | _ => e
noncomputable def aggK {β : Type} (v : RV) (k : List RV → β) (e : β) : β := match v with
  | .agg l => k l
  | _ => e
noncomputable def optK {α β : Type} (x : Option α) (k : α → β) (e : β) : β := Option.rec e k x
noncomputable def mpK {β : Type} (v : RV) (k : Nat → β) (e : β) : β := match v with
  | .mp G => k G
  | _ => e
noncomputable def cellK {β : Type} (v : OB) (k : TypeId → Bool → Nat → List (Nat × List RV) → β) (e : β) : β := match v with
  | .cells el z nxe mem => k el z nxe mem
  | _ => e
noncomputable def mesK {β : Type} (v : OB) (k : List (RV × RV × Nat) → Nat → β) (e : β) : β := match v with
  | .mp es ck => k es ck
  | _ => e
noncomputable def ifK {β : Type} (b : Bool) (k e : β) : β := Bool.rec e k b
noncomputable def andK {β : Type} (b c : Bool) (k e : β) : β := Bool.rec e (Bool.rec e k c) b
/-- a value of one cell that stands as it is -/
noncomputable def oneK {β : Type} (v : RV) (k e : β) : β := match v with
  | .str _ | .ptr _ _ _ | .sl _ _ _ _ _ | .s0 _ _ _ | .se | .ifc _ _ | .clo _ _ _ | .mp _ => k
  | .lit (.int _ _) | .lit (.bool _) | .lit (.pointer _) | .lit (.slice _ _ _) | .lit (.map _) | .lit .nilFunc | .lit .nilIface => k
  | _ => e
noncomputable def kIdx (k : IntKind) : Nat := IntKind.rec 0 1 2 3 4 5 6 7 k
noncomputable def limK (k : IntKind) : Nat := IntKind.rec 128 32768 2147483648 9223372036854775808 256 65536 4294967296 18446744073709551616 k
noncomputable def forceNK {β : Type} (n : Nat) (k : Nat → β) : β := Nat.rec (k 0) (fun m _ => k (Nat.succ m)) n
noncomputable def bR (b : Bool) : RV := .lit (.bool b)
noncomputable def boolKK {β : Type} (b : Bool) (k : RV → β) : β := Bool.rec (k (.lit (.bool false))) (k (.lit (.bool true))) b
/-! ### lists -/
noncomputable def findK {β : Type} (mem : List (Nat × List RV)) (e : Nat) (k : List RV → β) (x : β) : β := List.rec x (fun p _ ih => Prod.rec (fun e' cs => Bool.rec ih (k cs) (Nat.beq e' e)) p) mem
noncomputable def nthK {α β : Type} (l : List α) : Nat → (α → β) → β → β := List.rec (fun _ _ e => e) (fun x _ ih n k e => Nat.rec (k x) (fun m _ => ih m k e) n) l
noncomputable def dropK {α β : Type} (l : List α) : Nat → (List α → β) → β := List.rec (fun _ k => k []) (fun x l ih n k => Nat.rec (k (x :: l)) (fun m _ => ih m k) n) l
noncomputable def takeK {α β : Type} (n : Nat) : List α → (List α → β) → β → β := Nat.rec (fun _ k _ => k []) (fun _ ih l k e => List.rec e (fun x l _ => ih l (fun r => k (x :: r)) e) l) n
noncomputable def over1K {β : Type} (v : RV) (l : List RV) : Nat → (List RV → β) → β → β := List.rec (fun _ _ e => e) (fun x l ih n k e => Nat.rec (k (v :: l)) (fun m _ => ih m (fun r => k (x :: r)) e) n) l
noncomputable def overHK {β : Type} (news : List RV) : List RV → (List RV → β) → β → β := List.rec (fun cs k _ => k cs) (fun x _ ih cs k e => List.rec e (fun _ cs _ => ih cs (fun r => k (x :: r)) e) cs) news
noncomputable def overLK {β : Type} (news cs : List RV) : Nat → (List RV → β) → β → β := List.rec (fun n k e => Nat.rec (overHK news [] k e) (fun _ _ => e) n) (fun x cs ih n k e => Nat.rec (overHK news (x :: cs) k e) (fun m _ => ih m (fun r => k (x :: r)) e) n) cs
noncomputable def eqK (l : List Nat) : List Nat → Bool := List.rec (fun m => List.rec true (fun _ _ _ => false) m) (fun x _ ih m => List.rec false (fun y m _ => Bool.rec false (ih m) (Nat.beq x y)) m) l
noncomputable def allOneK {β : Type} (l : List RV) (k e : β) : β := List.rec k (fun x _ ih => oneK x ih e) l
noncomputable def lenEqK {α β : Type} (l : List α) : Nat → β → β → β := List.rec (fun n k e => Nat.rec k (fun _ _ => e) n) (fun _ _ ih n k e => Nat.rec e (fun m _ => ih m k e) n) l
noncomputable def cellsK {β : Type} (h : Hp) (G e : Nat) (k : TypeId → Bool → Nat → List RV → β) (x : β) : β := optK (getF h G) (fun ob => cellK ob (fun el z nxe mem => findK mem e (fun cs => k el z nxe cs) x) x) x
/-! ### compiled operations -/
structure PV where
  info : Nat → Option TypeInfo
  func : Nat → Option Func
noncomputable def PV.under (V : PV) (t : TypeId) : Option TypeDesc := match V.info t with
  | some i => match i.desc with
    | .named _ u => match V.info u with
      | some j => some j.desc
      | none => none
    | d => some d
  | none => none
structure PV.Ok (V : PV) (P : Program) : Prop where
  info : ∀ t i, V.info t = some i → P.info? t = some i
  func : ∀ f fn, V.func f = some fn → P.funcs[f]? = some fn
theorem PV.Ok.under {V : PV} {P : Program} (h : V.Ok P) {t : TypeId} {d : TypeDesc} (hu : V.under t = some d) : P.underlying t = some d := by
  unfold PV.under at hu
  unfold Program.underlying
  cases hi : V.info t with
  | none => rw [hi] at hu; cases hu
  | some i =>
    rw [hi] at hu
    rw [h.info t i hi]
    obtain ⟨desc, a, b, c, d, e, f, g, k, l⟩ := i
    cases desc with
    | named nm u =>
      simp only at hu ⊢
      cases hj : V.info u with
      | none => rw [hj] at hu; cases hu
      | some j =>
        rw [hj] at hu
        rw [h.info u j hj]
        exact hu
    | _ => exact hu
noncomputable def evens {α : Type} : List α → List α
  | [] => []
  | [a] => [a]
  | a :: _ :: l => a :: evens l
noncomputable def odds {α : Type} : List α → List α
  | [] => []
  | [_] => []
  | _ :: b :: l => b :: odds l
noncomputable def mkT {α : Type} : Nat → List α → Tr α
  | 0, _ => .leaf
  | _ + 1, [] => .leaf
  | d + 1, x :: l => .node (some x) (mkT d (evens l)) (mkT d (odds l))
noncomputable def viewOf (P : Program) : PV := ⟨getF (mkT 13 P.types.toList), getF (mkT 13 P.funcs.toList)⟩
/-- an operation, ready to be run; where the quick way does not serve, the operation itself is run -/
inductive I where
  | gen (ops : Array Oper) (o : Oper)
  | gd (p : Pa) (want : Bool) (d : Option Pa) (i : I) (ops : Array Oper) (o : Oper)
  | mov (d : Pa) (x : Od)
  | pick (d : Pa) (c a b : Od) (ops : Array Oper) (o : Oper)
  | add (d : Pa) (x y : Od) (ops : Array Oper) (o : Oper)
  | sub (d : Pa) (x y : Od) (ops : Array Oper) (o : Oper)
  | cmp (d : Pa) (lt eq gt : Bool) (x y : Od) (ops : Array Oper) (o : Oper)
  | seq (d : Pa) (ne : Bool) (x y : Od) (ops : Array Oper) (o : Oper)
  | not (d : Pa) (x : Od) (ops : Array Oper) (o : Oper)
  | fld (d : Pa) (x : Od) (off : Nat) (ops : Array Oper) (o : Oper)
  | idx (d : Pa) (x i : Od) (sz : Nat) (ops : Array Oper) (o : Oper)
  | ld1 (d : Pa) (x : Od) (ops : Array Oper) (o : Oper)
  | ldn (d : Pa) (x : Od) (n : Nat) (ops : Array Oper) (o : Oper)
  | st1 (d : Option Pa) (x v : Od) (ops : Array Oper) (o : Oper)
  | stn (d : Option Pa) (x v : Od) (n : Nat) (ops : Array Oper) (o : Oper)
  | ext (d : Pa) (x : Od) (i : Nat) (ops : Array Oper) (o : Oper)
  | len (d : Pa) (x : Od) (ops : Array Oper) (o : Oper)
  | lens (d : Pa) (x : Od) (ops : Array Oper) (o : Oper)
  | sidx (d : Pa) (x i : Od) (ops : Array Oper) (o : Oper)
  | nilc (d : Pa) (x : Od) (ops : Array Oper) (o : Oper)
  | box (d : Pa) (ty : TypeId) (x : Od) (ops : Array Oper) (o : Oper)
  | alloc (d : Pa) (ty : TypeId) (l : List RV) (ops : Array Oper) (o : Oper)
  | bsl (d : Pa) (e : TypeId) (n : Nat) (l : List Od) (ops : Array Oper) (o : Oper)
  | call (d : Option Pa) (f : FuncId) (as : List Od)
noncomputable def dstOk (nt : Nat) : Option Tmp → Bool
  | none => true
  | some d => Nat.ble (d + 1) nt
noncomputable def cDst : Option Tmp → Option Pa
  | none => none
  | some d => some (pathOf d)
noncomputable def bodyOf (V : PV) (f : FuncId) : Bool := match V.func f with
  | some fn => fn.body.isSome
  | none => false
noncomputable def cCmp (op : BinOp) (d : Pa) (x y : Operand) (ops : Array Oper) (o : Oper) : I := match op with
  | .add => .add d (cOd x) (cOd y) ops o
  | .sub => .sub d (cOd x) (cOd y) ops o
  | .lss => .cmp d true false false (cOd x) (cOd y) ops o
  | .leq => .cmp d true true false (cOd x) (cOd y) ops o
  | .gtr => .cmp d false false true (cOd x) (cOd y) ops o
  | .geq => .cmp d false true true (cOd x) (cOd y) ops o
  | .eql => .cmp d false true false (cOd x) (cOd y) ops o
  | .neq => .cmp d true false true (cOd x) (cOd y) ops o
  | _ => .gen ops o
noncomputable def cStr (op : BinOp) (d : Pa) (x y : Operand) (ops : Array Oper) (o : Oper) : I := match op with
  | .eql => .seq d false (cOd x) (cOd y) ops o
  | .neq => .seq d true (cOd x) (cOd y) ops o
  | _ => .gen ops o
noncomputable def cBin (V : PV) (op : BinOp) (ty : TypeId) (d : Pa) (x y : Operand) (ops : Array Oper) (o : Oper) : I := match V.under ty with
  | some (.int _) => cCmp op d x y ops o
  | some .string => cStr op d x y ops o
  | _ => .gen ops o
noncomputable def cFld (V : PV) (s : TypeId) (d : Pa) (x : Operand) (f : Nat) (ops : Array Oper) (o : Oper) : I := match V.under s with
  | some (.struct fields) => match fields[f]? with
    | some fl => match V.info fl.type with
      | some i => bif Nat.beq i.size 0 then .gen ops o else forceN fl.offset fun off => .fld d (cOd x) off ops o
      | none => .gen ops o
    | none => .gen ops o
  | _ => .gen ops o
noncomputable def cIdx (V : PV) (ty : TypeId) (d : Pa) (x ix : Operand) (ops : Array Oper) (o : Oper) : I := match V.under ty with
  | some (.slice e) => match V.info e with
    | some i => forceN i.size fun sz => .idx d (cOd x) (cOd ix) sz ops o
    | none => .gen ops o
  | _ => .gen ops o
noncomputable def cLd (V : PV) (ty : TypeId) (d : Pa) (x : Operand) (ops : Array Oper) (o : Oper) : I := match V.under ty with
  | some u => match V.info ty with
    | some i => match u.isRow with
      | true => forceN i.size fun n => .ldn d (cOd x) n ops o
      | false => .ld1 d (cOd x) ops o
    | none => .gen ops o
  | none => .gen ops o
noncomputable def cSt (V : PV) (ty : TypeId) (d : Option Pa) (x v : Operand) (ops : Array Oper) (o : Oper) : I := match V.info ty with
  | some i => forceN i.size fun n => match n with
    | 1 => .st1 d (cOd x) (cOd v) ops o
    | n => .stn d (cOd x) (cOd v) n ops o
  | none => .gen ops o
noncomputable def cLen (V : PV) (d : Pa) (args : List Operand) (tys : List TypeId) (ops : Array Oper) (o : Oper) : I := match args, tys with
  | [x], [ty] => match V.under ty with
    | some .string => .lens d (cOd x) ops o
    | some (.slice _) => .len d (cOd x) ops o
    | _ => .gen ops o
  | _, _ => .gen ops o
noncomputable def cAlloc (V : PV) (d : Pa) (ty : TypeId) (ops : Array Oper) (o : Oper) : I := match V.info ty with
  | some i => match i.zero with
    | some z => forceRs (z.cells.toList.map .lit) fun l => .alloc d ty l ops o
    | none => .gen ops o
  | none => .gen ops o
/-- the parts are 0, 1, .. -/
noncomputable def denseP : Nat → List (Nat × Operand) → Bool
  | _, [] => true
  | k, (i, _) :: l => Nat.beq i k && denseP (k + 1) l
noncomputable def cBsl (V : PV) (d : Pa) (ty : TypeId) (len : Nat) (parts : List (Nat × Operand)) (ops : Array Oper) (o : Oper) : I := match V.under ty with
  | some (.slice e) => match V.info e with
    | some i => match i.zero with
      | some _ => bif Nat.beq i.size 1 && denseP 0 parts && Nat.beq parts.length len && Nat.ble 1 len && Nat.ble len 10000 then forceN len fun n => .bsl d e n (cOds (parts.map (·.2))) ops o else .gen ops o
      | none => .gen ops o
    | none => .gen ops o
  | _ => .gen ops o
/-- operations that yield a value -/
noncomputable def cJ (V : PV) (p : Pa) (op : Op) (ops : Array Oper) (o : Oper) : I := match op with
  | .move x => .mov p (cOd x)
  | .assign x => .mov p (cOd x)
  | .pick c a b => .pick p (cOd c) (cOd a) (cOd b) ops o
  | .binOp op ty x y _ => cBin V op ty p x y ops o
  | .unOp .not _ x => .not p (cOd x) ops o
  | .fieldAddr s x f => cFld V s p x f ops o
  | .indexAddr ty x ix => cIdx V ty p x ix ops o
  | .load ty x => cLd V ty p x ops o
  | .store ty x v => cSt V ty (some p) x v ops o
  | .extract x i => .ext p (cOd x) i ops o
  | .nilCheck x => .nilc p (cOd x) ops o
  | .box ty x => .box p ty (cOd x) ops o
  | .alloc ty => cAlloc V p ty ops o
  | .buildSlice ty len parts => cBsl V p ty len parts.toList ops o
  | .index ty x ix => match V.under ty with
    | some .string => .sidx p (cOd x) (cOd ix) ops o
    | _ => .gen ops o
  | .call ⟨.value (.func f), args, _⟩ => bif bodyOf V f then .call (some p) f (cOds args.toList) else .gen ops o
  | .call ⟨.builtin .len, args, tys⟩ => cLen V p args.toList tys.toList ops o
  | _ => .gen ops o
/-- operations that yield none -/
noncomputable def cJ0 (V : PV) (op : Op) (ops : Array Oper) (o : Oper) : I := match op with
  | .store ty x v => cSt V ty none x v ops o
  | .call ⟨.value (.func f), args, _⟩ => bif bodyOf V f then .call none f (cOds args.toList) else .gen ops o
  | _ => .gen ops o
noncomputable def cJd (V : PV) (nt : Nat) (ops : Array Oper) (o : Oper) : I := match o.dst with
  | some d => bif Nat.ble (d + 1) nt then cJ V (pathOf d) o.op ops o else .gen ops o
  | none => cJ0 V o.op ops o
noncomputable def cGd (nt : Nat) (ops : Array Oper) (o : Oper) (i : I) : Option (Nat × Bool) → I
  | none => i
  | some (j, want) => match (ops[j]?).bind (·.dst) with
    | some d => bif dstOk nt o.dst then .gd (pathOf d) want (cDst o.dst) i ops o else .gen ops o
    | none => .gen ops o
noncomputable def cI (V : PV) (nt : Nat) (ops : Array Oper) (o : Oper) : I := cGd nt ops o (cJd V nt ops o) o.guard
/-! ### compiled operations, run -/
abbrev KN := Tr RV → Hp → Nat → Option (List DC) → Option Ans
abbrev KX := RX → Tr RV → Hp → Nat → Option (List DC) → Option Ans
abbrev CallK := Who → List RV → Hp → Nat → (RE → Hp → Nat → Option Ans) → Option Ans
/-- what a run of operations needs, and does not change -/
structure Env where
  P : Program
  callK : CallK
  callR0 : CallR
  n : Nat
noncomputable def setD {β : Type} (d : Option Pa) (r : RV) (t : Tr RV) (k : Tr RV → β) : β := Option.rec (k t) (fun p => setP r p t k) d
noncomputable def outK (kn : KN) (kx : KX) (x : Option (RX × St)) : Option Ans := match x with
  | some (.normal, s) => kn s.tm s.h s.nx s.ds
  | some (x, s) => kx x s.tm s.h s.nx s.ds
  | none => none
noncomputable def genK (ops : Array Oper) (o : Oper) (E : Env) (t : Tr RV) (h : Hp) (nx : Nat) (ds : Option (List DC)) (kn : KN) (kx : KX) : Option Ans :=
  outK kn kx (runOps E.P E.callR0 ops [o] ⟨t, E.n, h, nx, ds⟩)
/-- a value is set, and on -/
noncomputable def toK (d : Pa) (t : Tr RV) (h : Hp) (nx : Nat) (ds : Option (List DC)) (kn : KN) (r : RV) : Option Ans := setP r d t fun t' => kn t' h nx ds
noncomputable def addK (x y : RV) (k : RV → Option Ans) (e : Option Ans) : Option Ans :=
  natK x (fun d n => natK y (fun d' m => andK (Nat.beq (kIdx d) (kIdx d')) (Nat.ble (Nat.succ (Nat.add n m)) (limK d)) (forceNK (Nat.add n m) fun q => k (.lit (.int d (.ofNat q)))) e) e) e
noncomputable def subK (x y : RV) (k : RV → Option Ans) (e : Option Ans) : Option Ans :=
  natK x (fun d n => natK y (fun d' m => andK (Nat.beq (kIdx d) (kIdx d')) (andK (Nat.ble m n) (Nat.ble (Nat.succ n) (limK d)) true false) (forceNK (Nat.sub n m) fun q => k (.lit (.int d (.ofNat q)))) e) e) e
noncomputable def cmpK (lt eq gt : Bool) (x y : RV) (k : RV → Option Ans) (e : Option Ans) : Option Ans :=
  natK x (fun d n => natK y (fun d' m => ifK (Nat.beq (kIdx d) (kIdx d')) (Bool.rec (Bool.rec (boolKK gt k) (boolKK lt k) (Nat.ble n m)) (boolKK eq k) (Nat.beq n m)) e) e) e
noncomputable def seqK (ne : Bool) (x y : RV) (k : RV → Option Ans) (e : Option Ans) : Option Ans :=
  strK x (fun l => strK y (fun m => Bool.rec (boolKK ne k) (boolKK (!ne) k) (eqK l m)) e) e
noncomputable def notK (x : RV) (k : RV → Option Ans) (e : Option Ans) : Option Ans := boolK x (fun b => Bool.rec (k (.lit (.bool true))) (k (.lit (.bool false))) b) e
noncomputable def fldK (x : RV) (off : Nat) (k : RV → Option Ans) (e : Option Ans) : Option Ans := ptrK x (fun G m o => forceNK (Nat.add o off) fun o' => k (.ptr G m o')) e
noncomputable def idxK (x i : RV) (sz : Nat) (k : RV → Option Ans) (e : Option Ans) : Option Ans :=
  slK x (fun G m off len _ => natK i (fun _ n => ifK (Nat.ble (Nat.succ n) len) (forceNK (Nat.add off (Nat.mul n sz)) fun o => k (.ptr G m o)) e) e) e
noncomputable def ld1K (h : Hp) (x : RV) (k : RV → Option Ans) (e : Option Ans) : Option Ans := ptrK x (fun G m off => cellsK h G m (fun _ _ _ cs => nthK cs off k e) e) e
noncomputable def ldnK (h : Hp) (x : RV) (n : Nat) (k : RV → Option Ans) (e : Option Ans) : Option Ans := ptrK x (fun G m off => cellsK h G m (fun _ _ _ cs => dropK cs off fun l => takeK n l (fun r => k (.agg r)) e) e) e
noncomputable def st1K (h : Hp) (x v : RV) (k : Hp → Option Ans) (e : Option Ans) : Option Ans :=
  ptrK x (fun G m off => oneK v (cellsK h G m (fun el z nxe cs => over1K v cs off (fun cs' => setF (.cells el z nxe [(m, cs')]) h G k) e) e) e) e
noncomputable def stnK (h : Hp) (x v : RV) (n : Nat) (k : Hp → Option Ans) (e : Option Ans) : Option Ans :=
  ptrK x (fun G m off => aggK v (fun l => lenEqK l n (allOneK l (cellsK h G m (fun el z nxe cs => overLK l cs off (fun cs' => setF (.cells el z nxe [(m, cs')]) h G k) e) e) e) e) e) e
noncomputable def extK (x : RV) (i : Nat) (k : RV → Option Ans) (e : Option Ans) : Option Ans := tupK x (fun l => nthK l i k e) e
noncomputable def lenK (x : RV) (k : RV → Option Ans) (e : Option Ans) : Option Ans := slK x (fun _ _ _ n _ => k (.lit (.int .i64 (.ofNat n)))) e
noncomputable def lenKN {α : Type} (l : List α) : Nat := List.rec 0 (fun _ _ ih => Nat.succ ih) l
noncomputable def lensK (x : RV) (k : RV → Option Ans) (e : Option Ans) : Option Ans := strK x (fun l => forceNK (lenKN l) fun n => k (.lit (.int .i64 (.ofNat n)))) e
noncomputable def sidxK (x i : RV) (k : RV → Option Ans) (e : Option Ans) : Option Ans := strK x (fun l => natK i (fun _ n => nthK l n (fun b => forceNK b fun b => k (.lit (.int .u8 (.ofNat b)))) e) e) e
noncomputable def nilcK (x : RV) (k : RV → Option Ans) (e : Option Ans) : Option Ans := ptrK x (fun G m off => k (.ptr G m off)) e
/-- a new block -/
noncomputable def newK (ob : OB) (h : Hp) (nx : Nat) (k : Hp → Nat → Option Ans) : Option Ans := forceNK (Nat.succ nx) fun nx' => setF ob h nx fun h' => k h' nx'
noncomputable def boxK (ty : TypeId) (v : RV) (h : Hp) (nx : Nat) (k : Hp → Nat → Option Ans) (e : Option Ans) : Option Ans := oneK v (newK (.cells ty false 1 [(0, [v])]) h nx k) (aggK v (fun l => newK (.cells ty false 1 [(0, l)]) h nx k) e)
/-- each is of one cell -/
noncomputable def getL1 {β : Type} (l : List Od) (t : Tr RV) : (List RV → β) → β → β := List.rec (fun k _ => k []) (fun o _ ih k e => getO o t fun r => oneK r (ih (fun l => k (r :: l)) e) e) l
noncomputable def backK (d : Option Pa) (t : Tr RV) (ds : Option (List DC)) (kn : KN) (kx : KX) (re : RE) (h : Hp) (nx : Nat) : Option Ans :=
  RE.rec (fun r => setD d r t fun t' => kn t' h nx ds) (fun v => kx (.panic v) t h nx ds) re
noncomputable def wantK (p : Pa) (want : Bool) (t : Tr RV) (yes no gen : Option Ans) : Option Ans := getP p t fun v => boolK v (fun b => Bool.rec (Bool.rec yes no want) (Bool.rec no yes want) b) gen
noncomputable def appK {α β : Type} (l m : List α) : (List α → β) → β := List.rec (fun k => k m) (fun x _ ih k => ih fun r => k (x :: r)) l
section steps
variable (V : PV)
abbrev StepK := Env → Tr RV → Hp → Nat → Option (List DC) → KN → KX → Option Ans
noncomputable def iGd (p : Pa) (want : Bool) (d : Option Pa) (_ : I) (ops : Array Oper) (o : Oper) (ih : StepK) : StepK := fun E t h nx ds kn kx => wantK p want t (ih E t h nx ds kn kx) (setD d undR t fun t' => kn t' h nx ds) (genK ops o E t h nx ds kn kx)
noncomputable def iMov (d : Pa) (x : Od) : StepK := fun E t h nx ds kn kx => getO x t fun r => setP r d t fun t' => kn t' h nx ds
noncomputable def iPick (d : Pa) (c a b : Od) (ops : Array Oper) (o : Oper) : StepK := fun E t h nx ds kn kx => getO c t fun v => boolK v (fun q => Bool.rec (getO b t (toK d t h nx ds kn)) (getO a t (toK d t h nx ds kn)) q) (genK ops o E t h nx ds kn kx)
noncomputable def iAdd (d : Pa) (x y : Od) (ops : Array Oper) (o : Oper) : StepK := fun E t h nx ds kn kx => getO x t fun a => getO y t fun b => addK a b (toK d t h nx ds kn) (genK ops o E t h nx ds kn kx)
noncomputable def iSub (d : Pa) (x y : Od) (ops : Array Oper) (o : Oper) : StepK := fun E t h nx ds kn kx => getO x t fun a => getO y t fun b => subK a b (toK d t h nx ds kn) (genK ops o E t h nx ds kn kx)
noncomputable def iCmp (d : Pa) (lt eq gt : Bool) (x y : Od) (ops : Array Oper) (o : Oper) : StepK := fun E t h nx ds kn kx => getO x t fun a => getO y t fun b => cmpK lt eq gt a b (toK d t h nx ds kn) (genK ops o E t h nx ds kn kx)
noncomputable def iSeq (d : Pa) (ne : Bool) (x y : Od) (ops : Array Oper) (o : Oper) : StepK := fun E t h nx ds kn kx => getO x t fun a => getO y t fun b => seqK ne a b (toK d t h nx ds kn) (genK ops o E t h nx ds kn kx)
noncomputable def iNot (d : Pa) (x : Od) (ops : Array Oper) (o : Oper) : StepK := fun E t h nx ds kn kx => getO x t fun a => notK a (toK d t h nx ds kn) (genK ops o E t h nx ds kn kx)
noncomputable def iFld (d : Pa) (x : Od) (off : Nat) (ops : Array Oper) (o : Oper) : StepK := fun E t h nx ds kn kx => getO x t fun a => fldK a off (toK d t h nx ds kn) (genK ops o E t h nx ds kn kx)
noncomputable def iIdx (d : Pa) (x i : Od) (sz : Nat) (ops : Array Oper) (o : Oper) : StepK := fun E t h nx ds kn kx => getO x t fun a => getO i t fun b => idxK a b sz (toK d t h nx ds kn) (genK ops o E t h nx ds kn kx)
noncomputable def iLd1 (d : Pa) (x : Od) (ops : Array Oper) (o : Oper) : StepK := fun E t h nx ds kn kx => getO x t fun a => ld1K h a (toK d t h nx ds kn) (genK ops o E t h nx ds kn kx)
noncomputable def iLdn (d : Pa) (x : Od) (n : Nat) (ops : Array Oper) (o : Oper) : StepK := fun E t h nx ds kn kx => getO x t fun a => ldnK h a n (toK d t h nx ds kn) (genK ops o E t h nx ds kn kx)
noncomputable def iSt1 (d : Option Pa) (x v : Od) (ops : Array Oper) (o : Oper) : StepK := fun E t h nx ds kn kx => getO x t fun a => getO v t fun b => st1K h a b (fun h' => setD d undR t fun t' => kn t' h' nx ds) (genK ops o E t h nx ds kn kx)
noncomputable def iStn (d : Option Pa) (x v : Od) (n : Nat) (ops : Array Oper) (o : Oper) : StepK := fun E t h nx ds kn kx => getO x t fun a => getO v t fun b => stnK h a b n (fun h' => setD d undR t fun t' => kn t' h' nx ds) (genK ops o E t h nx ds kn kx)
noncomputable def iExt (d : Pa) (x : Od) (i : Nat) (ops : Array Oper) (o : Oper) : StepK := fun E t h nx ds kn kx => getO x t fun a => extK a i (toK d t h nx ds kn) (genK ops o E t h nx ds kn kx)
noncomputable def iLen (d : Pa) (x : Od) (ops : Array Oper) (o : Oper) : StepK := fun E t h nx ds kn kx => getO x t fun a => lenK a (toK d t h nx ds kn) (genK ops o E t h nx ds kn kx)
noncomputable def iLens (d : Pa) (x : Od) (ops : Array Oper) (o : Oper) : StepK := fun E t h nx ds kn kx => getO x t fun a => lensK a (toK d t h nx ds kn) (genK ops o E t h nx ds kn kx)
noncomputable def iSidx (d : Pa) (x i : Od) (ops : Array Oper) (o : Oper) : StepK := fun E t h nx ds kn kx => getO x t fun a => getO i t fun b => sidxK a b (toK d t h nx ds kn) (genK ops o E t h nx ds kn kx)
noncomputable def iNilc (d : Pa) (x : Od) (ops : Array Oper) (o : Oper) : StepK := fun E t h nx ds kn kx => getO x t fun a => nilcK a (toK d t h nx ds kn) (genK ops o E t h nx ds kn kx)
noncomputable def iBox (d : Pa) (ty : TypeId) (x : Od) (ops : Array Oper) (o : Oper) : StepK := fun E t h nx ds kn kx => getO x t fun a => boxK ty a h nx (fun h' nx' => setP (.ptr nx 0 0) d t fun t' => kn t' h' nx' ds) (genK ops o E t h nx ds kn kx)
noncomputable def iAlloc (d : Pa) (ty : TypeId) (l : List RV) (ops : Array Oper) (o : Oper) : StepK := fun E t h nx ds kn kx => newK (.cells ty false 1 [(0, l)]) h nx fun h' nx' => setP (.ptr nx 0 0) d t fun t' => kn t' h' nx' ds
noncomputable def iBsl (d : Pa) (e : TypeId) (n : Nat) (l : List Od) (ops : Array Oper) (o : Oper) : StepK := fun E t h nx ds kn kx => getL1 l t (fun cs => newK (.cells e false 1 [(0, cs)]) h nx fun h' nx' => setP (.sl nx 0 0 n 1) d t fun t' => kn t' h' nx' ds) (genK ops o E t h nx ds kn kx)
noncomputable def iCall (d : Option Pa) (f : FuncId) (as : List Od) : StepK := fun E t h nx ds kn kx => getL as t fun l => E.callK (.fn f) l h nx (backK d t ds kn kx)
end steps
/-- what an operation does -/
noncomputable def stepI (i : I) : StepK := I.rec (motive := fun _ => StepK) genK iGd iMov iPick iAdd iSub iCmp iSeq iNot iFld iIdx iLd1 iLdn iSt1 iStn iExt iLen iLens iSidx iNilc iBox iAlloc iBsl iCall i
noncomputable def cIs (V : PV) (nt : Nat) (ops : Array Oper) : List Oper → List I
  | [] => []
  | o :: l => cI V nt ops o :: cIs V nt ops l
noncomputable def runK (E : Env) (l : List I) : Tr RV → Hp → Nat → Option (List DC) → KN → KX → Option Ans :=
  List.rec (motive := fun _ => Tr RV → Hp → Nat → Option (List DC) → KN → KX → Option Ans) (fun t h nx ds kn _ => kn t h nx ds) (fun i _ ih t h nx ds kn kx => stepI i E t h nx ds (fun t h nx ds => ih t h nx ds kn kx) kx) l
noncomputable def exitK (id : Nat) (kn : KN) (kx : KX) (x : RX) (t : Tr RV) (h : Hp) (nx : Nat) (ds : Option (List DC)) : Option Ans := match x with
  | .exit id' => Bool.rec (kx (.exit id') t h nx ds) (kn t h nx ds) (Nat.beq id' id)
  | x => kx x t h nx ds
noncomputable def condK {β : Type} (v : RV) (a b e : β) : β := boolK v (fun q => Bool.rec b a q) e
noncomputable def lots : Nat := 1000000
noncomputable def loopK (body : Tr RV → Hp → Nat → Option (List DC) → KN → KX → Option Ans) (kx : KX) (f : Nat) : Tr RV → Hp → Nat → Option (List DC) → Option Ans := Nat.rec (motive := fun _ => Tr RV → Hp → Nat → Option (List DC) → Option Ans) (fun _ _ _ _ => none) (fun _ again t h nx ds => body t h nx ds again kx) f
/-- a function's text, run -/
noncomputable def execK (V : PV) (nt : Nat) (E : Env) (c : Code) : Tr RV → Hp → Nat → Option (List DC) → KN → KX → Option Ans :=
  Code.rec (motive := fun _ => Tr RV → Hp → Nat → Option (List DC) → KN → KX → Option Ans)
    (fun t h nx ds kn _ => kn t h nx ds)
    (fun _ ops dr => Bool.rec (fun t h nx ds kn kx => runK E (cIs V nt ops ops.toList) t h nx ds kn kx) (fun t h nx ds kn kx => outK kn kx (drawR E.P E.callR0 ops ⟨t, E.n, h, nx, ds⟩)) dr)
    (fun _ _ iha ihb t h nx ds kn kx => iha t h nx ds (fun t h nx ds => ihb t h nx ds kn kx) kx)
    (fun c _ _ iha ihb t h nx ds kn kx => getO (cOd c) t fun v => condK v (iha t h nx ds kn kx) (ihb t h nx ds kn kx) none)
    (fun id _ ih t h nx ds kn kx => ih t h nx ds kn (exitK id kn kx))
    (fun _ ih t h nx ds _ kx => loopK ih kx lots t h nx ds)
    (fun g ps assign body _ _ t h nx ds kn kx => outK kn kx (loopFR E.callR0 g ps assign body ⟨t, E.n, h, nx, ds⟩))
    (fun id t h nx ds _ kx => kx (.exit id) t h nx ds)
    (fun _ _ _ _ _ _ _ _ => none)
    (fun _ t h nx ds kn _ => kn t h nx ds)
    (fun _ _ _ _ _ _ _ => none)
    (fun t h nx ds _ kx => kx .ret t h nx ds)
    (fun _ _ _ _ _ _ _ => none)
    c
/-- a function's results, if they are temporaries all -/
noncomputable def resC : List ResultVar → Option (List Pa)
  | [] => some []
  | .tmp t :: l => match resC l with
    | some r => some (pathOf t :: r)
    | none => none
  | _ :: _ => none
noncomputable def getsP {β : Type} (l : List Pa) (t : Tr RV) : (List RV → β) → β := List.rec (fun k => k []) (fun p _ ih k => getP p t fun r => ih fun l => k (r :: l)) l
noncomputable def oneK2 {β : Type} (l : List RV) (k : RV → β) : β := match l with
  | [r] => k r
  | l => k (.tup l)
noncomputable def slowEnd (orc : CallR) (E : Env) (fn : Func) (k : RE → Hp → Nat → Option Ans) (x : RX) (t : Tr RV) (h : Hp) (nx : Nat) (ds : Option (List DC)) : Option Ans :=
  match endR E.P orc E.callR0 fn (some (x, ⟨t, E.n, h, nx, ds⟩)) with
  | some (re, h', nx') => k re h' nx'
  | none => none
noncomputable def noDefers {β : Type} (ds : Option (List DC)) (k e : β) : β := match ds with
  | some [] => k
  | _ => e
/-- at a function's end; x: normal or ret -/
noncomputable def quickEnd (orc : CallR) (E : Env) (fn : Func) (k : RE → Hp → Nat → Option Ans) (x : RX) (t : Tr RV) (h : Hp) (nx : Nat) (ds : Option (List DC)) : Option Ans :=
  optK (resC fn.results.toList) (fun ps => noDefers ds (getsP ps t fun l => oneK2 l fun r => k (.ret r) h nx) (slowEnd orc E fn k x t h nx ds)) (slowEnd orc E fn k x t h nx ds)
noncomputable def normK (orc : CallR) (E : Env) (fn : Func) (k : RE → Hp → Nat → Option Ans) (t : Tr RV) (h : Hp) (nx : Nat) (ds : Option (List DC)) : Option Ans := quickEnd orc E fn k .normal t h nx ds
noncomputable def retK (orc : CallR) (E : Env) (fn : Func) (k : RE → Hp → Nat → Option Ans) (x : RX) (t : Tr RV) (h : Hp) (nx : Nat) (ds : Option (List DC)) : Option Ans := match x with
  | .ret => quickEnd orc E fn k .ret t h nx ds
  | x => slowEnd orc E fn k x t h nx ds
noncomputable def codeOf (V : PV) (f : FuncId) : Option (Func × Code) := match V.func f with
  | some fn => if fn.name == "runtime.NumGoroutine" then none else match fn.body with
    | some c => some (fn, c)
    | none => none
  | none => none
noncomputable def maxK (a b : Nat) : Nat := Bool.rec a b (Nat.ble a b)
/-- the arguments, in a frame -/
noncomputable def argK {β : Type} (l : List RV) : Nat → Tr RV → (Tr RV → β) → β := List.rec (motive := fun _ => Nat → Tr RV → (Tr RV → β) → β) (fun _ t k => k t) (fun r _ ih i t k => setF r t i fun t' => ih (Nat.succ i) t' k) l
noncomputable def enterK (P : Program) (V : PV) (orc : CallR) (ck : CallK) (cr : CallR) (fn : Func) (c : Code) (args : List RV) (h : Hp) (nx : Nat) (k : RE → Hp → Nat → Option Ans) : Option Ans :=
  forceNK (maxK fn.ntmps (lenKN args)) fun n => argK args 0 .leaf fun t => execK V fn.ntmps ⟨P, ck, cr, n⟩ c t h nx (some []) (normK orc ⟨P, ck, cr, n⟩ fn k) (retK orc ⟨P, ck, cr, n⟩ fn k)
noncomputable def ansK (k : RE → Hp → Nat → Option Ans) (x : Option Ans) : Option Ans := match x with
  | some (re, h, nx) => k re h nx
  | none => none
noncomputable def bodyK (P : Program) (V : PV) (orc : CallR) (ck : CallK) (cr : CallR) (who : Who) (args : List RV) (h : Hp) (nx : Nat) (k : RE → Hp → Nat → Option Ans) : Option Ans :=
  Who.rec (fun f => optK (codeOf V f) (fun p => Prod.rec (fun fn c => optK (orc (.fn f) args h nx) (fun r => ansK k (some r)) (enterK P V orc ck cr fn c args h nx k)) p) none)
    (fun G => ansK k (roundR P cr (drawR P cr) G args h nx)) who
noncomputable def resK : RE → Hp → Nat → Option Ans := fun re h nx => some (re, h, nx)
noncomputable def callK (P : Program) (V : PV) (orc : CallR) (d : Nat) : CallK :=
  Nat.rec (motive := fun _ => CallK) (fun _ _ _ _ _ => none) (fun _ ck who args h nx k => bodyK P V orc ck (fun who args h nx => ck who args h nx resK) who args h nx k) d
/-- calls, quickly -/
noncomputable def callQ (P : Program) (V : PV) (orc : CallR) (d : Nat) : CallR := fun who args h nx => callK P V orc d who args h nx resK
end Go.Proofs.YthkhdbfohaaojaaGreatDoor.Ax
