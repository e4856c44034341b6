import Derived.Test.YtlimlmjljjmcpaaGreatDoorAxOrc
/-
  A lean reckoning for the kernel: operations.
-/
set_option linter.unusedVariables false
set_option linter.unusedSimpArgs false
namespace Go.Proofs.YtlimlmjljjmcpaaGreatDoor.Ax
open Go Go.RowKit
abbrev Ans := RE × Hp × Nat
/-! ### trees, quickly -/
noncomputable def getF {α : Type} (t : Tr α) : Nat → Option α :=
  Tr.rec (fun _ => none) (fun v _ _ ihl ihr n => Nat.rec v (fun m _ => Nat.rec (ihl (Nat.div m 2)) (fun _ _ => ihr (Nat.div m 2)) (Nat.mod m 2)) n) t
noncomputable def leafF {α β : Type} (x : α) : Nat → Nat → (Tr α → β) → β
  | 0, _, k => k .leaf
  | f + 1, n, k => Nat.rec (k (.node (some x) .leaf .leaf)) (fun m _ => Nat.rec (leafF x f (Nat.div m 2) fun l => k (.node none l .leaf)) (fun _ _ => leafF x f (Nat.div m 2) fun r => k (.node none .leaf r)) (Nat.mod m 2)) n
noncomputable def setF {α β : Type} (x : α) (t : Tr α) : Nat → (Tr α → β) → β :=
  Tr.rec (fun n k => leafF x (Nat.succ n) n k) (fun v l r ihl ihr n k => Nat.rec (k (.node (some x) l r)) (fun m _ => Nat.rec (ihl (Nat.div m 2) fun l' => k (.node v l' r)) (fun _ _ => ihr (Nat.div m 2) fun r' => k (.node v l r')) (Nat.mod m 2)) n) t
/-- where a number lies in a tree -/
inductive Pa where
  | h
  | l (p : Pa)
  | r (p : Pa)
noncomputable def pathGo : Nat → Nat → Pa
  | 0, _ => .h
  | f + 1, n => bif Nat.beq n 0 then .h else bif Nat.beq (n % 2) 1 then .l (pathGo f (n / 2)) else .r (pathGo f (n / 2 - 1))
noncomputable def pathOf (n : Nat) : Pa := pathGo (n + 1) n
abbrev undR : RV := .lit undef
noncomputable def getP {β : Type} (p : Pa) : Tr RV → (RV → β) → β :=
  Pa.rec (fun t k => Tr.rec (k undR) (fun v _ _ _ _ => Option.rec (k undR) k v) t) (fun _ ih t k => Tr.rec (k undR) (fun _ l _ _ _ => ih l k) t) (fun _ ih t k => Tr.rec (k undR) (fun _ _ r _ _ => ih r k) t) p
noncomputable def setP {β : Type} (x : RV) (p : Pa) : Tr RV → (Tr RV → β) → β :=
  Pa.rec (fun t k => Tr.rec (k (.node (some x) .leaf .leaf)) (fun _ l r _ _ => k (.node (some x) l r)) t)
    (fun _ ih t k => Tr.rec (ih .leaf fun l' => k (.node none l' .leaf)) (fun v l r _ _ => ih l fun l' => k (.node v l' r)) t)
    (fun _ ih t k => Tr.rec (ih .leaf fun r' => k (.node none .leaf r')) (fun v l r _ _ => ih r fun r' => k (.node v l r')) t) p
inductive Od where
  | t (p : Pa)
  | c (r : RV)
noncomputable def getO {β : Type} (o : Od) (t : Tr RV) (k : RV → β) : β := Od.rec (fun p => getP p t k) k o
noncomputable def cOd : Operand → Od
  | .tmp i => .t (pathOf i)
  | .const v => forceV v .c
  | .global b => .c (.lit (.pointer (some ⟨b, 0, none⟩)))
  | .func f => .c (.lit (.func (.func f) #[] #[]))
noncomputable def getL {β : Type} (l : List Od) (t : Tr RV) : (List RV → β) → β := List.rec (fun k => k []) (fun o _ ih k => getO o t fun r => ih fun l => k (r :: l)) l
noncomputable def cOds : List Operand → List Od
  | [] => []
  | x :: l => cOd x :: cOds l
/-! ### what a value is -/
noncomputable def natK {β : Type} (v : RV) (k : IntKind → Nat → β) (e : β) : β := match v with
  | .lit (.int d (.ofNat n)) => k d n
  | _ => e
noncomputable def boolK {β : Type} (v : RV) (k : Bool → β) (e : β) : β := match v with
  | .lit (.bool b) => k b
  | _ => e
noncomputable def strK {β : Type} (v : RV) (k : List Nat → β) (e : β) : β := match v with
  | .str l => k l
  | _ => e
noncomputable def ptrK {β : Type} (v : RV) (k : Nat → Nat → Nat → β) (e : β) : β := match v with
  | .ptr G m off => k G m off
  | _ => e
noncomputable def slK {β : Type} (v : RV) (k : Nat → Nat → Nat → Nat → Nat → β) (e : β) : β := match v with
  | .sl G m off len sz => k G m off len sz
  | _ => e
noncomputable def tupK {β : Type} (v : RV) (k : List RV → β) (e : β) : β := match v with
  | .tup l => k l
  | _ => e
noncomputable def aggK {β : Type} (v : RV) (k : List RV → β) (e : β) : β := match v with
  | .agg l => k l
  | _ => e
noncomputable def optK {α β : Type} (x : Option α) (k : α → β) (e : β) : β := Option.rec e k x
noncomputable def mpK {β : Type} (v : RV) (k : Nat → β) (e : β) : β := match v with
  | .mp G => k G
  | _ => e
noncomputable def cellK {β : Type} (v : OB) (k : TypeId → Bool → Nat → List (Nat × List RV) → β) (e : β) : β := match v with
  | .cells el z nxe mem => k el z nxe mem
  | _ => e
noncomputable def mesK {β : Type} (v : OB) (k : List (RV × RV × Nat) → Nat → β) (e : β) : β := match v with
  | .mp es ck => k es ck
  | _ => e
noncomputable def ifK {β : Type} (b : Bool) (k e : β) : β := Bool.rec e k b
noncomputable def andK {β : Type} (b c : Bool) (k e : β) : β := Bool.rec e (Bool.rec e k c) b
/-- a value of one cell that stands ags it is -/
noncomputable def oneK {β : Type} (v : RV) (k e : β) : β := match v with
  | .str _ | .ptr _ _ _ | .sl _ _ _ _ _ | .s0 _ _ _ | .se | .ifc _ _ | .clo _ _ _ | .mp _ => k
  | .lit (.int _ _) | .lit (.bool _) | .lit (.pointer _) | .lit (.slice _ _ _) | .lit (.map _) | .lit .nilFunc | .lit .nilIface => k
  | _ => e
noncomputable def kIdx (k : IntKind) : Nat := IntKind.rec 0 1 2 3 4 5 6 7 k
noncomputable def limK (k : IntKind) : Nat := IntKind.rec 128 32768 2147483648 9223372036854775808 256 65536 4294967296 18446744073709551616 k
noncomputable def forceNK {β : Type} (n : Nat) (k : Nat → β) : β := Nat.rec (k 0) (fun m _ => k (Nat.succ m)) n
noncomputable def bR (b : Bool) : RV := .lit (.bool b)
noncomputable def boolKK {β : Type} (b : Bool) (k : RV → β) : β := Bool.rec (k (.lit (.bool false))) (k (.lit (.bool true))) b
/-! ### lists -/
noncomputable def findK {β : Type} (mem : List (Nat × List RV)) (e : Nat) (k : List RV → β) (x : β) : β := List.rec x (fun p _ ih => Prod.rec (fun e' cs => Bool.rec ih (k cs) (Nat.beq e' e)) p) mem
noncomputable def nthK {α β : Type} (l : List α) : Nat → (α → β) → β → β := List.rec (fun _ _ e => e) (fun x _ ih n k e => Nat.rec (k x) (fun m _ => ih m k e) n) l
noncomputable def dropK {α β : Type} (l : List α) : Nat → (List α → β) → β := List.rec (fun _ k => k []) (fun x l ih n k => Nat.rec (k (x :: l)) (fun m _ => ih m k) n) l
noncomputable def takeK {α β : Type} (n : Nat) : List α → (List α → β) → β → β := Nat.rec (fun _ k _ => k []) (fun _ ih l k e => List.rec e (fun x l _ => ih l (fun r => k (x :: r)) e) l) n
noncomputable def over1K {β : Type} (v : RV) (l : List RV) : Nat → (List RV → β) → β → β := List.rec (fun _ _ e => e) (fun x l ih n k e => Nat.rec (k (v :: l)) (fun m _ => ih m (fun r => k (x :: r)) e) n) l
noncomputable def overHK {β : Type} (news : List RV) : List RV → (List RV → β) → β → β := List.rec (fun cs k _ => k cs) (fun x _ ih cs k e => List.rec e (fun _ cs _ => ih cs (fun r => k (x :: r)) e) cs) news
noncomputable def overLK {β : Type} (news cs : List RV) : Nat → (List RV → β) → β → β := List.rec (fun n k e => Nat.rec (overHK news [] k e) (fun _ _ => e) n) (fun x cs ih n k e => Nat.rec (overHK news (x :: cs) k e) (fun m _ => ih m (fun r => k (x :: r)) e) n) cs
noncomputable def eqK (l : List Nat) : List Nat → Bool := List.rec (fun m => List.rec true (fun _ _ _ => false) m) (fun x _ ih m => List.rec false (fun y m _ => Bool.rec false (ih m) (Nat.beq x y)) m) l
noncomputable def allOneK {β : Type} (l : List RV) (k e : β) : β := List.rec k (fun x _ ih => oneK x ih e) l
noncomputable def lenEqK {α β : Type} (l : List α) : Nat → β → β → β := List.rec (fun n k e => Nat.rec k (fun _ _ => e) n) (fun _ _ ih n k e => Nat.rec e (fun m _ => ih m k e) n) l
noncomputable def cellsK {β : Type} (h : Hp) (G e : Nat) (k : TypeId → Bool → Nat → List RV → β) (x : β) : β := optK (getF h G) (fun ob => cellK ob (fun el z nxe mem => findK mem e (fun cs => k el z nxe cs) x) x) x
/-! ### compiled operations -/
structure PV where
  info : Nat → Option TypeInfo
  func : Nat → Option Func
noncomputable def PV.under (V : PV) (t : TypeId) : Option TypeDesc := match V.info t with
  | some i => match i.desc with
    | .named _ u => match V.info u with
      | some j => some j.desc
      | none => none
    | d => some d
  | none => none
structure PV.Ok (V : PV) (P : Program) : Prop where
  info : ∀ t i, V.info t = some i → P.info? t = some i
  func : ∀ f fn, V.func f = some fn → P.funcs[f]? = some fn
theorem PV.Ok.under {V : PV} {P : Program} (h : V.Ok P) {t : TypeId} {d : TypeDesc} (hu : V.under t = some d) : P.underlying t = some d := by
  unfold PV.under at hu
  unfold Program.underlying
  cases hi : V.info t with
  | none => rw [hi] at hu; cases hu
  | some i =>
    rw [hi] at hu
    rw [h.info t i hi]
    obtain ⟨desc, a, b, c, d, e, f, g, k, l⟩ := i
    cases desc with
    | named nm u =>
      simp only at hu ⊢
      cases hj : V.info u with
      | none => rw [hj] at hu; cases hu
      | some j =>
        rw [hj] at hu
        rw [h.info u j hj]
        exact hu
    | _ => exact hu
noncomputable def evens {α : Type} : List α → List α
  | [] => []
  | [a] => [a]
  | a :: _ :: l => a :: evens l
noncomputable def odds {α : Type} : List α → List α
  | [] => []
  | [_] => []
  | _ :: b :: l => b :: odds l
noncomputable def mkT {α : Type} : Nat → List α → Tr α
  | 0, _ => .leaf
  | _ + 1, [] => .leaf
  | d + 1, x :: l => .node (some x) (mkT d (evens l)) (mkT d (odds l))
noncomputable def viewOf (P : Program) : PV := ⟨getF (mkT 13 P.types.toList), getF (mkT 13 P.funcs.toList)⟩
/-- an operation, ready to be run; where the quick way does not serve, the operation itself is run -/
inductive I where
  | gen (ops : Array Oper) (o : Oper)
  | gd (p : Pa) (want : Bool) (d : Option Pa) (i : I) (ops : Array Oper) (o : Oper)
  | mov (d : Pa) (x : Od)
  | pick (d : Pa) (c a b : Od) (ops : Array Oper) (o : Oper)
  | add (d : Pa) (x y : Od) (ops : Array Oper) (o : Oper)
  | sub (d : Pa) (x y : Od) (ops : Array Oper) (o : Oper)
  | cmp (d : Pa) (lt eq gt : Bool) (x y : Od) (ops : Array Oper) (o : Oper)
  | seq (d : Pa) (ne : Bool) (x y : Od) (ops : Array Oper) (o : Oper)
  | not (d : Pa) (x : Od) (ops : Array Oper) (o : Oper)
  | fld (d : Pa) (x : Od) (off : Nat) (ops : Array Oper) (o : Oper)
  | idx (d : Pa) (x i : Od) (sz : Nat) (ops : Array Oper) (o : Oper)
  | ld1 (d : Pa) (x : Od) (ops : Array Oper) (o : Oper)
  | ldn (d : Pa) (x : Od) (n : Nat) (ops : Array Oper) (o : Oper)
  | st1 (d : Option Pa) (x v : Od) (ops : Array Oper) (o : Oper)
  | stn (d : Option Pa) (x v : Od) (n : Nat) (ops : Array Oper) (o : Oper)
  | ext (d : Pa) (x : Od) (i : Nat) (ops : Array Oper) (o : Oper)
  | len (d : Pa) (x : Od) (ops : Array Oper) (o : Oper)
  | lens (d : Pa) (x : Od) (ops : Array Oper) (o : Oper)
  | sidx (d : Pa) (x i : Od) (ops : Array Oper) (o : Oper)
  | nilc (d : Pa) (x : Od) (ops : Array Oper) (o : Oper)
  | box (d : Pa) (ty : TypeId) (x : Od) (ops : Array Oper) (o : Oper)
  | alloc (d : Pa) (ty : TypeId) (l : List RV) (ops : Array Oper) (o : Oper)
  | bsl (d : Pa) (e : TypeId) (n : Nat) (l : List Od) (ops : Array Oper) (o : Oper)
  | call (d : Option Pa) (f : FuncId) (ags : List Od)
noncomputable def dstOk (nt : Nat) : Option Tmp → Bool
  | none => true
  | some d => Nat.ble (d + 1) nt
noncomputable def cDst : Option Tmp → Option Pa
  | none => none
  | some d => some (pathOf d)
noncomputable def bodyOf (V : PV) (f : FuncId) : Bool := match V.func f with
  | some fn => fn.body.isSome
  | none => false
noncomputable def cCmp (op : BinOp) (d : Pa) (x y : Operand) (ops : Array Oper) (o : Oper) : I := match op with
  | .add => .add d (cOd x) (cOd y) ops o
  | .sub => .sub d (cOd x) (cOd y) ops o
  | .lss => .cmp d true false false (cOd x) (cOd y) ops o
  | .leq => .cmp d true true false (cOd x) (cOd y) ops o
  | .gtr => .cmp d false false true (cOd x) (cOd y) ops o
  | .geq => .cmp d false true true (cOd x) (cOd y) ops o
  | .eql => .cmp d false true false (cOd x) (cOd y) ops o
  | .neq => .cmp d true false true (cOd x) (cOd y) ops o
  | _ => .gen ops o
noncomputable def cStr (op : BinOp) (d : Pa) (x y : Operand) (ops : Array Oper) (o : Oper) : I := match op with
  | .eql => .seq d false (cOd x) (cOd y) ops o
  | .neq => .seq d true (cOd x) (cOd y) ops o
  | _ => .gen ops o
noncomputable def cBin (V : PV) (op : BinOp) (ty : TypeId) (d : Pa) (x y : Operand) (ops : Array Oper) (o : Oper) : I := match V.under ty with
  | some (.int _) => cCmp op d x y ops o
  | some .string => cStr op d x y ops o
  | _ => .gen ops o
noncomputable def cFld (V : PV) (s : TypeId) (d : Pa) (x : Operand) (f : Nat) (ops : Array Oper) (o : Oper) : I := match V.under s with
  | some (.struct fields) => match fields[f]? with
    | some fl => match V.info fl.type with
      | some i => bif Nat.beq i.size 0 then .gen ops o else forceN fl.offset fun off => .fld d (cOd x) off ops o
      | none => .gen ops o
    | none => .gen ops o
  | _ => .gen ops o
noncomputable def cIdx (V : PV) (ty : TypeId) (d : Pa) (x ix : Operand) (ops : Array Oper) (o : Oper) : I := match V.under ty with
  | some (.slice e) => match V.info e with
    | some i => forceN i.size fun sz => .idx d (cOd x) (cOd ix) sz ops o
    | none => .gen ops o
  | _ => .gen ops o
noncomputable def cLd (V : PV) (ty : TypeId) (d : Pa) (x : Operand) (ops : Array Oper) (o : Oper) : I := match V.under ty with
  | some u => match V.info ty with
    | some i => match u.isRow with
      | true => forceN i.size fun n => .ldn d (cOd x) n ops o
      | false => .ld1 d (cOd x) ops o
    | none => .gen ops o
  | none => .gen ops o
noncomputable def cSt (V : PV) (ty : TypeId) (d : Option Pa) (x v : Operand) (ops : Array Oper) (o : Oper) : I := match V.info ty with
  | some i => forceN i.size fun n => match n with
    | 1 => .st1 d (cOd x) (cOd v) ops o
    | n => .stn d (cOd x) (cOd v) n ops o
  | none => .gen ops o
noncomputable def cLen (V : PV) (d : Pa) (args : List Operand) (tys : List TypeId) (ops : Array Oper) (o : Oper) : I := match args, tys with
  | [x], [ty] => match V.under ty with
    | some .string => .lens d (cOd x) ops o
    | some (.slice _) => .len d (cOd x) ops o
    | _ => .gen ops o
  | _, _ => .gen ops o
noncomputable def cAlloc (V : PV) (d : Pa) (ty : TypeId) (ops : Array Oper) (o : Oper) : I := match V.info ty with
  | some i => match i.zero with
    | some z => forceRs (z.cells.toList.map .lit) fun l => .alloc d ty l ops o
    | none => .gen ops o
  | none => .gen ops o
/-- the parts are 0, 1, .. -/
noncomputable def denseP : Nat → List (Nat × Operand) → Bool
  | _, [] => true
  | k, (i, _) :: l => Nat.beq i k && denseP (k + 1) l
noncomputable def cBsl (V : PV) (d : Pa) (ty : TypeId) (len : Nat) (parts : List (Nat × Operand)) (ops : Array Oper) (o : Oper) : I := match V.under ty with
  | some (.slice e) => match V.info e with
    | some i => match i.zero with
      | some _ => bif Nat.beq i.size 1 && denseP 0 parts && Nat.beq parts.length len && Nat.ble 1 len && Nat.ble len 10000 then forceN len fun n => .bsl d e n (cOds (parts.map (·.2))) ops o else .gen ops o
      | none => .gen ops o
    | none => .gen ops o
  | _ => .gen ops o
/-- operations that yield a value -/
noncomputable def cJ (V : PV) (p : Pa) (op : Op) (ops : Array Oper) (o : Oper) : I := match op with
  | .move x => .mov p (cOd x)
  | .assign x => .mov p (cOd x)
  | .pick c a b => .pick p (cOd c) (cOd a) (cOd b) ops o
  | .binOp op ty x y _ => cBin V op ty p x y ops o
  | .unOp .not _ x => .not p (cOd x) ops o
  | .fieldAddr s x f => cFld V s p x f ops o
  | .indexAddr ty x ix => cIdx V ty p x ix ops o
  | .load ty x => cLd V ty p x ops o
  | .store ty x v => cSt V ty (some p) x v ops o
  | .extract x i => .ext p (cOd x) i ops o
  | .nilCheck x => .nilc p (cOd x) ops o
  | .box ty x => .box p ty (cOd x) ops o
  | .alloc ty => cAlloc V p ty ops o
  | .buildSlice ty len parts => cBsl V p ty len parts.toList ops o
  | .index ty x ix => match V.under ty with
    | some .string => .sidx p (cOd x) (cOd ix) ops o
    | _ => .gen ops o
  | .call ⟨.value (.func f), args, _⟩ => bif bodyOf V f then .call (some p) f (cOds args.toList) else .gen ops o
  | .call ⟨.builtin .len, args, tys⟩ => cLen V p args.toList tys.toList ops o
  | _ => .gen ops o
/-- operations that yield none -/
noncomputable def cJ0 (V : PV) (op : Op) (ops : Array Oper) (o : Oper) : I := match op with
  | .store ty x v => cSt V ty none x v ops o
  | .call ⟨.value (.func f), args, _⟩ => bif bodyOf V f then .call none f (cOds args.toList) else .gen ops o
  | _ => .gen ops o
noncomputable def cJd (V : PV) (nt : Nat) (ops : Array Oper) (o : Oper) : I := match o.dst with
  | some d => bif Nat.ble (d + 1) nt then cJ V (pathOf d) o.op ops o else .gen ops o
  | none => cJ0 V o.op ops o
noncomputable def cGd (nt : Nat) (ops : Array Oper) (o : Oper) (i : I) : Option (Nat × Bool) → I
  | none => i
  | some (j, want) => match (ops[j]?).bind (·.dst) with
    | some d => bif dstOk nt o.dst then .gd (pathOf d) want (cDst o.dst) i ops o else .gen ops o
    | none => .gen ops o
noncomputable def cI (V : PV) (nt : Nat) (ops : Array Oper) (o : Oper) : I := cGd nt ops o (cJd V nt ops o) o.guard
/-! ### compiled operations, run -/
abbrev KN := Tr RV → Hp → Nat → Option (List DC) → Option Ans
abbrev KX := RX → Tr RV → Hp → Nat → Option (List DC) → Option Ans
abbrev CallK := Who → List RV → Hp → Nat → (RE → Hp → Nat → Option Ans) → Option Ans
/-- what a run of operations needs, and does not change -/
structure Env where
  P : Program
  callK : CallK
  callR0 : CallR
  n : Nat
noncomputable def setD {β : Type} (d : Option Pa) (r : RV) (t : Tr RV) (k : Tr RV → β) : β := Option.rec (k t) (fun p => setP r p t k) d
noncomputable def outK (kn : KN) (kx : KX) (x : Option (RX × St)) : Option Ans := match x with
  | some (.normal, s) => kn s.tm s.h s.nx s.ds
  | some (x, s) => kx x s.tm s.h s.nx s.ds
  | none => none
noncomputable def genK (ops : Array Oper) (o : Oper) (E : Env) (t : Tr RV) (h : Hp) (nx : Nat) (ds : Option (List DC)) (kn : KN) (kx : KX) : Option Ans :=
  Env.rec (motive := fun _ => Option Ans) (fun P _ cr n => outK kn kx (runOps P cr ops [o] ⟨t, n, h, nx, ds⟩)) E
theorem genK_eq {ops : Array Oper} {o : Oper} {E : Env} {t : Tr RV} {h : Hp} {nx : Nat} {ds : Option (List DC)} {kn : KN} {kx : KX} : genK ops o E t h nx ds kn kx = outK kn kx (runOps E.P E.callR0 ops [o] ⟨t, E.n, h, nx, ds⟩) := rfl
/-- a value is set, and on -/
noncomputable def toK (d : Pa) (t : Tr RV) (h : Hp) (nx : Nat) (ds : Option (List DC)) (kn : KN) (r : RV) : Option Ans := setP r d t fun t' => kn t' h nx ds
noncomputable def addK (x y : RV) (k : RV → Option Ans) (e : Option Ans) : Option Ans :=
  natK x (fun d n => natK y (fun d' m => andK (Nat.beq (kIdx d) (kIdx d')) (Nat.ble (Nat.succ (Nat.add n m)) (limK d)) (forceNK (Nat.add n m) fun q => k (.lit (.int d (.ofNat q)))) e) e) e
noncomputable def subK (x y : RV) (k : RV → Option Ans) (e : Option Ans) : Option Ans :=
  natK x (fun d n => natK y (fun d' m => andK (Nat.beq (kIdx d) (kIdx d')) (andK (Nat.ble m n) (Nat.ble (Nat.succ n) (limK d)) true false) (forceNK (Nat.sub n m) fun q => k (.lit (.int d (.ofNat q)))) e) e) e
noncomputable def cmpK (lt eq gt : Bool) (x y : RV) (k : RV → Option Ans) (e : Option Ans) : Option Ans :=
  natK x (fun d n => natK y (fun d' m => ifK (Nat.beq (kIdx d) (kIdx d')) (Bool.rec (Bool.rec (boolKK gt k) (boolKK lt k) (Nat.ble n m)) (boolKK eq k) (Nat.beq n m)) e) e) e
noncomputable def seqK (ne : Bool) (x y : RV) (k : RV → Option Ans) (e : Option Ans) : Option Ans :=
  strK x (fun l => strK y (fun m => Bool.rec (boolKK ne k) (boolKK (!ne) k) (eqK l m)) e) e
noncomputable def notK (x : RV) (k : RV → Option Ans) (e : Option Ans) : Option Ans := boolK x (fun b => Bool.rec (k (.lit (.bool true))) (k (.lit (.bool false))) b) e
noncomputable def fldK (x : RV) (off : Nat) (k : RV → Option Ans) (e : Option Ans) : Option Ans := ptrK x (fun G m o => forceNK (Nat.add o off) fun o' => k (.ptr G m o')) e
noncomputable def idxK (x i : RV) (sz : Nat) (k : RV → Option Ans) (e : Option Ans) : Option Ans :=
  slK x (fun G m off len _ => natK i (fun _ n => ifK (Nat.ble (Nat.succ n) len) (forceNK (Nat.add off (Nat.mul n sz)) fun o => k (.ptr G m o)) e) e) e
noncomputable def ld1K (h : Hp) (x : RV) (k : RV → Option Ans) (e : Option Ans) : Option Ans := ptrK x (fun G m off => cellsK h G m (fun _ _ _ cs => nthK cs off k e) e) e
noncomputable def ldnK (h : Hp) (x : RV) (n : Nat) (k : RV → Option Ans) (e : Option Ans) : Option Ans := ptrK x (fun G m off => cellsK h G m (fun _ _ _ cs => dropK cs off fun l => takeK n l (fun r => k (.agg r)) e) e) e
noncomputable def st1K (h : Hp) (x v : RV) (k : Hp → Option Ans) (e : Option Ans) : Option Ans :=
  ptrK x (fun G m off => oneK v (cellsK h G m (fun el z nxe cs => over1K v cs off (fun cs' => setF (.cells el z nxe [(m, cs')]) h G k) e) e) e) e
noncomputable def stnK (h : Hp) (x v : RV) (n : Nat) (k : Hp → Option Ans) (e : Option Ans) : Option Ans :=
  ptrK x (fun G m off => aggK v (fun l => lenEqK l n (allOneK l (cellsK h G m (fun el z nxe cs => overLK l cs off (fun cs' => setF (.cells el z nxe [(m, cs')]) h G k) e) e) e) e) e) e
noncomputable def extK (x : RV) (i : Nat) (k : RV → Option Ans) (e : Option Ans) : Option Ans := tupK x (fun l => nthK l i k e) e
noncomputable def lenK (x : RV) (k : RV → Option Ans) (e : Option Ans) : Option Ans := slK x (fun _ _ _ n _ => k (.lit (.int .i64 (.ofNat n)))) e
noncomputable def lenKN {α : Type} (l : List α) : Nat := List.rec 0 (fun _ _ ih => Nat.succ ih) l
noncomputable def lensK (x : RV) (k : RV → Option Ans) (e : Option Ans) : Option Ans := strK x (fun l => forceNK (lenKN l) fun n => k (.lit (.int .i64 (.ofNat n)))) e
noncomputable def sidxK (x i : RV) (k : RV → Option Ans) (e : Option Ans) : Option Ans := strK x (fun l => natK i (fun _ n => nthK l n (fun b => forceNK b fun b => k (.lit (.int .u8 (.ofNat b)))) e) e) e
noncomputable def nilcK (x : RV) (k : RV → Option Ans) (e : Option Ans) : Option Ans := ptrK x (fun G m off => k (.ptr G m off)) e
/-- a new block -/
noncomputable def newK (ob : OB) (h : Hp) (nx : Nat) (k : Hp → Nat → Option Ans) : Option Ans := forceNK (Nat.succ nx) fun nx' => setF ob h nx fun h' => k h' nx'
noncomputable def boxK (ty : TypeId) (v : RV) (h : Hp) (nx : Nat) (k : Hp → Nat → Option Ans) (e : Option Ans) : Option Ans := oneK v (newK (.cells ty false 1 [(0, [v])]) h nx k) (aggK v (fun l => newK (.cells ty false 1 [(0, l)]) h nx k) e)
/-- each is of one cell -/
noncomputable def getL1 {β : Type} (l : List Od) (t : Tr RV) : (List RV → β) → β → β := List.rec (fun k _ => k []) (fun o _ ih k e => getO o t fun r => oneK r (ih (fun l => k (r :: l)) e) e) l
noncomputable def backK (d : Option Pa) (t : Tr RV) (ds : Option (List DC)) (kn : KN) (kx : KX) (re : RE) (h : Hp) (nx : Nat) : Option Ans :=
  RE.rec (fun r => setD d r t fun t' => kn t' h nx ds) (fun v => kx (.panic v) t h nx ds) re
noncomputable def wantK (p : Pa) (want : Bool) (t : Tr RV) (yes no gen : Option Ans) : Option Ans := getP p t fun v => boolK v (fun b => Bool.rec (Bool.rec yes no want) (Bool.rec no yes want) b) gen
noncomputable def appK {α β : Type} (l m : List α) : (List α → β) → β := List.rec (fun k => k m) (fun x _ ih k => ih fun r => k (x :: r)) l
section steps
variable (V : PV)
abbrev StepK := Env → Tr RV → Hp → Nat → Option (List DC) → KN → KX → Option Ans
noncomputable def iGd (p : Pa) (want : Bool) (d : Option Pa) (_ : I) (ops : Array Oper) (o : Oper) (ih : StepK) : StepK := fun E t h nx ds kn kx => wantK p want t (ih E t h nx ds kn kx) (setD d undR t fun t' => kn t' h nx ds) (genK ops o E t h nx ds kn kx)
noncomputable def iMov (d : Pa) (x : Od) : StepK := fun E t h nx ds kn kx => getO x t fun r => setP r d t fun t' => kn t' h nx ds
noncomputable def iPick (d : Pa) (c a b : Od) (ops : Array Oper) (o : Oper) : StepK := fun E t h nx ds kn kx => getO c t fun v => boolK v (fun q => Bool.rec (getO b t (toK d t h nx ds kn)) (getO a t (toK d t h nx ds kn)) q) (genK ops o E t h nx ds kn kx)
noncomputable def iAdd (d : Pa) (x y : Od) (ops : Array Oper) (o : Oper) : StepK := fun E t h nx ds kn kx => getO x t fun a => getO y t fun b => addK a b (toK d t h nx ds kn) (genK ops o E t h nx ds kn kx)
noncomputable def iSub (d : Pa) (x y : Od) (ops : Array Oper) (o : Oper) : StepK := fun E t h nx ds kn kx => getO x t fun a => getO y t fun b => subK a b (toK d t h nx ds kn) (genK ops o E t h nx ds kn kx)
noncomputable def iCmp (d : Pa) (lt eq gt : Bool) (x y : Od) (ops : Array Oper) (o : Oper) : StepK := fun E t h nx ds kn kx => getO x t fun a => getO y t fun b => cmpK lt eq gt a b (toK d t h nx ds kn) (genK ops o E t h nx ds kn kx)
noncomputable def iSeq (d : Pa) (ne : Bool) (x y : Od) (ops : Array Oper) (o : Oper) : StepK := fun E t h nx ds kn kx => getO x t fun a => getO y t fun b => seqK ne a b (toK d t h nx ds kn) (genK ops o E t h nx ds kn kx)
noncomputable def iNot (d : Pa) (x : Od) (ops : Array Oper) (o : Oper) : StepK := fun E t h nx ds kn kx => getO x t fun a => notK a (toK d t h nx ds kn) (genK ops o E t h nx ds kn kx)
noncomputable def iFld (d : Pa) (x : Od) (off : Nat) (ops : Array Oper) (o : Oper) : StepK := fun E t h nx ds kn kx => getO x t fun a => fldK a off (toK d t h nx ds kn) (genK ops o E t h nx ds kn kx)
noncomputable def iIdx (d : Pa) (x i : Od) (sz : Nat) (ops : Array Oper) (o : Oper) : StepK := fun E t h nx ds kn kx => getO x t fun a => getO i t fun b => idxK a b sz (toK d t h nx ds kn) (genK ops o E t h nx ds kn kx)
noncomputable def iLd1 (d : Pa) (x : Od) (ops : Array Oper) (o : Oper) : StepK := fun E t h nx ds kn kx => getO x t fun a => ld1K h a (toK d t h nx ds kn) (genK ops o E t h nx ds kn kx)
noncomputable def iLdn (d : Pa) (x : Od) (n : Nat) (ops : Array Oper) (o : Oper) : StepK := fun E t h nx ds kn kx => getO x t fun a => ldnK h a n (toK d t h nx ds kn) (genK ops o E t h nx ds kn kx)
noncomputable def iSt1 (d : Option Pa) (x v : Od) (ops : Array Oper) (o : Oper) : StepK := fun E t h nx ds kn kx => getO x t fun a => getO v t fun b => st1K h a b (fun h' => setD d undR t fun t' => kn t' h' nx ds) (genK ops o E t h nx ds kn kx)
noncomputable def iStn (d : Option Pa) (x v : Od) (n : Nat) (ops : Array Oper) (o : Oper) : StepK := fun E t h nx ds kn kx => getO x t fun a => getO v t fun b => stnK h a b n (fun h' => setD d undR t fun t' => kn t' h' nx ds) (genK ops o E t h nx ds kn kx)
noncomputable def iExt (d : Pa) (x : Od) (i : Nat) (ops : Array Oper) (o : Oper) : StepK := fun E t h nx ds kn kx => getO x t fun a => extK a i (toK d t h nx ds kn) (genK ops o E t h nx ds kn kx)
noncomputable def iLen (d : Pa) (x : Od) (ops : Array Oper) (o : Oper) : StepK := fun E t h nx ds kn kx => getO x t fun a => lenK a (toK d t h nx ds kn) (genK ops o E t h nx ds kn kx)
noncomputable def iLens (d : Pa) (x : Od) (ops : Array Oper) (o : Oper) : StepK := fun E t h nx ds kn kx => getO x t fun a => lensK a (toK d t h nx ds kn) (genK ops o E t h nx ds kn kx)
noncomputable def iSidx (d : Pa) (x i : Od) (ops : Array Oper) (o : Oper) : StepK := fun E t h nx ds kn kx => getO x t fun a => getO i t fun b => sidxK a b (toK d t h nx ds kn) (genK ops o E t h nx ds kn kx)
noncomputable def iNilc (d : Pa) (x : Od) (ops : Array Oper) (o : Oper) : StepK := fun E t h nx ds kn kx => getO x t fun a => nilcK a (toK d t h nx ds kn) (genK ops o E t h nx ds kn kx)
noncomputable def iBox (d : Pa) (ty : TypeId) (x : Od) (ops : Array Oper) (o : Oper) : StepK := fun E t h nx ds kn kx => getO x t fun a => boxK ty a h nx (fun h' nx' => setP (.ptr nx 0 0) d t fun t' => kn t' h' nx' ds) (genK ops o E t h nx ds kn kx)
noncomputable def iAlloc (d : Pa) (ty : TypeId) (l : List RV) (ops : Array Oper) (o : Oper) : StepK := fun E t h nx ds kn kx => newK (.cells ty false 1 [(0, l)]) h nx fun h' nx' => setP (.ptr nx 0 0) d t fun t' => kn t' h' nx' ds
noncomputable def iBsl (d : Pa) (e : TypeId) (n : Nat) (l : List Od) (ops : Array Oper) (o : Oper) : StepK := fun E t h nx ds kn kx => getL1 l t (fun cs => newK (.cells e false 1 [(0, cs)]) h nx fun h' nx' => setP (.sl nx 0 0 n 1) d t fun t' => kn t' h' nx' ds) (genK ops o E t h nx ds kn kx)
noncomputable def iCall (d : Option Pa) (f : FuncId) (ags : List Od) : StepK := fun E t h nx ds kn kx => getL ags t fun l => E.callK (.fn f) l h nx (backK d t ds kn kx)
end steps
/-- what an operation does -/
noncomputable def stepI (i : I) : StepK := I.rec (motive := fun _ => StepK) genK iGd iMov iPick iAdd iSub iCmp iSeq iNot iFld iIdx iLd1 iLdn iSt1 iStn iExt iLen iLens iSidx iNilc iBox iAlloc iBsl iCall i
noncomputable def cIs (V : PV) (nt : Nat) (ops : Array Oper) : List Oper → List I
  | [] => []
  | o :: l => cI V nt ops o :: cIs V nt ops l
noncomputable def runK (E : Env) (l : List I) : Tr RV → Hp → Nat → Option (List DC) → KN → KX → Option Ans :=
  List.rec (motive := fun _ => Tr RV → Hp → Nat → Option (List DC) → KN → KX → Option Ans) (fun t h nx ds kn _ => kn t h nx ds) (fun i _ ih t h nx ds kn kx => stepI i E t h nx ds (fun t h nx ds => ih t h nx ds kn kx) kx) l
/-! ### regions whose order is drawn -/
inductive Dk where
  | pure
  | read (p : Pa)
  | alloc
  | eff
noncomputable def isDefer (op : Op) : Bool := match op with
  | .defer _ => true
  | _ => false
noncomputable def dkOf (P : Program) (nt : Nat) (o : Oper) : Option Dk := bif isDefer o.op then none else match clsR P o with
  | .pure => some .pure
  | .read => match o.dst with
    | some d => bif Nat.ble (d + 1) nt then some (.read (pathOf d)) else none
    | none => none
  | .alloc => some .alloc
  | .eff => some .eff
/-- m covers e -/
noncomputable def coversN (m e : Nat) : Bool := Nat.beq (Nat.land m e) e
/-- every operation that reads memory comes behind those that changed it before, and those that change it behind all of them -/
noncomputable def drGo (P : Program) (V : PV) (nt : Nat) (ops : Array Oper) (mk : Tr Nat) : List Oper → Nat → Nat → Nat → Option (List (Dk × I))
  | [], _, _, _ => some []
  | o :: l, k, e, r => match dkOf P nt o with
    | none => none
    | some dk => match dk with
      | .pure => (drGo P V nt ops mk l (k + 1) e r).map ((.pure, cI V nt ops o) :: ·)
      | .read p => bif coversN ((mk.get k).getD 0) e then (drGo P V nt ops mk l (k + 1) e (r ||| 2 ^ k)).map ((.read p, cI V nt ops o) :: ·) else none
      | .alloc => (drGo P V nt ops mk l (k + 1) (e ||| 2 ^ k) r).map ((.alloc, cI V nt ops o) :: ·)
      | .eff => bif coversN ((mk.get k).getD 0) (e ||| r) then (drGo P V nt ops mk l (k + 1) (e ||| 2 ^ k) r).map ((.eff, cI V nt ops o) :: ·) else none
noncomputable def drOf (P : Program) (V : PV) (nt : Nat) (ops : Array Oper) : Option (List (Dk × I)) := match statOf P ops with
  | some mk => drGo P V nt ops mk ops.toList 0 0 0
  | none => none
noncomputable def noX : KX := fun _ _ _ _ _ => none
/-- a value that is seen to be itself -/
noncomputable def selfK {β : Type} (v : RV) (k e : β) : β := match v with
  | .ptr _ _ _ | .sl _ _ _ _ _ | .str _ | .lit (.bool _) | .lit (.int _ (.ofNat _)) => k
  | v => ifK (eqRV v v) k e
noncomputable def runD (E : Env) (l : List (Dk × I)) : Nat → Nat → Hp → Tr RV → Hp → Nat → Option (List DC) → KN → Option Ans :=
  List.rec (motive := fun _ => Nat → Nat → Hp → Tr RV → Hp → Nat → Option (List DC) → KN → Option Ans) (fun _ _ _ t h nx ds kn => kn t h nx ds)
    (fun p _ ih k base S0 t h nx ds kn => Prod.rec (fun dk i => Dk.rec
      (stepI i E t h nx ds (fun t h nx ds => ih (Nat.succ k) base S0 t h nx ds kn) noX)
      (fun p => stepI i E t h nx ds (fun t h nx ds => getP p t fun v => selfK v (ih (Nat.succ k) base S0 t h nx ds kn) none) noX)
      (forceNK (Nat.add base k) fun G => optK (getF S0 G) (fun _ => none) (stepI i E t h G ds (fun t h _ ds => ih (Nat.succ k) base S0 t h nx ds kn) noX))
      (stepI i E t h nx ds (fun t h nx ds => ih (Nat.succ k) base S0 t h nx ds kn) noX) dk) p) l
noncomputable def drawK (V : PV) (nt : Nat) (E : Env) (ops : Array Oper) (t : Tr RV) (h : Hp) (nx : Nat) (ds : Option (List DC)) (kn : KN) (kx : KX) : Option Ans :=
  Env.rec (motive := fun _ => Option Ans) (fun P ck cr n => optK (drOf P V nt ops) (fun l => forceNK (Nat.add nx ops.size) fun n1 => runD ⟨P, ck, cr, n⟩ l 0 nx h t h n1 ds kn) (outK kn kx (drawR P cr ops ⟨t, n, h, nx, ds⟩))) E
theorem drawK_eq {V : PV} {nt : Nat} {E : Env} {ops : Array Oper} {t : Tr RV} {h : Hp} {nx : Nat} {ds : Option (List DC)} {kn : KN} {kx : KX} : drawK V nt E ops t h nx ds kn kx = optK (drOf E.P V nt ops) (fun l => forceNK (Nat.add nx ops.size) fun n1 => runD E l 0 nx h t h n1 ds kn) (outK kn kx (drawR E.P E.callR0 ops ⟨t, E.n, h, nx, ds⟩)) := rfl
noncomputable def exitK (id : Nat) (kn : KN) (kx : KX) (x : RX) (t : Tr RV) (h : Hp) (nx : Nat) (ds : Option (List DC)) : Option Ans := match x with
  | .exit id' => Bool.rec (kx (.exit id') t h nx ds) (kn t h nx ds) (Nat.beq id' id)
  | x => kx x t h nx ds
noncomputable def condK {β : Type} (v : RV) (a b e : β) : β := boolK v (fun q => Bool.rec b a q) e
noncomputable def lots : Nat := 1000000
noncomputable def loopK (body : Tr RV → Hp → Nat → Option (List DC) → KN → KX → Option Ans) (kx : KX) (f : Nat) : Tr RV → Hp → Nat → Option (List DC) → Option Ans := Nat.rec (motive := fun _ => Tr RV → Hp → Nat → Option (List DC) → Option Ans) (fun _ _ _ _ => none) (fun _ again t h nx ds => body t h nx ds again kx) f
/-- a function's text, run -/
noncomputable def execK (V : PV) (nt : Nat) (E : Env) (c : Code) : Tr RV → Hp → Nat → Option (List DC) → KN → KX → Option Ans :=
  Code.rec (motive := fun _ => Tr RV → Hp → Nat → Option (List DC) → KN → KX → Option Ans)
    (fun t h nx ds kn _ => kn t h nx ds)
    (fun _ ops dr => Bool.rec (fun t h nx ds kn kx => runK E (cIs V nt ops ops.toList) t h nx ds kn kx) (drawK V nt E ops) dr)
    (fun _ _ iha ihb t h nx ds kn kx => iha t h nx ds (fun t h nx ds => ihb t h nx ds kn kx) kx)
    (fun c _ _ iha ihb t h nx ds kn kx => getO (cOd c) t fun v => condK v (iha t h nx ds kn kx) (ihb t h nx ds kn kx) none)
    (fun id _ ih t h nx ds kn kx => ih t h nx ds kn (exitK id kn kx))
    (fun _ ih t h nx ds _ kx => loopK ih kx lots t h nx ds)
    (fun g ps assign body _ _ t h nx ds kn kx => Env.rec (motive := fun _ => Option Ans) (fun _ _ cr n => outK kn kx (loopFR cr g ps assign body ⟨t, n, h, nx, ds⟩)) E)
    (fun id t h nx ds _ kx => kx (.exit id) t h nx ds)
    (fun _ _ _ _ _ _ _ _ => none)
    (fun _ t h nx ds kn _ => kn t h nx ds)
    (fun _ _ _ _ _ _ _ => none)
    (fun t h nx ds _ kx => kx .ret t h nx ds)
    (fun _ _ _ _ _ _ _ => none)
    c
/-- a function's results, if they are temporaries all -/
noncomputable def resC : List ResultVar → Option (List Pa)
  | [] => some []
  | .tmp t :: l => match resC l with
    | some r => some (pathOf t :: r)
    | none => none
  | _ :: _ => none
noncomputable def getsP {β : Type} (l : List Pa) (t : Tr RV) : (List RV → β) → β := List.rec (fun k => k []) (fun p _ ih k => getP p t fun r => ih fun l => k (r :: l)) l
noncomputable def oneK2 {β : Type} (l : List RV) (k : RV → β) : β := match l with
  | [r] => k r
  | l => k (.tup l)
noncomputable def slowEnd (orc : CallR) (E : Env) (fn : Func) (k : RE → Hp → Nat → Option Ans) (x : RX) (t : Tr RV) (h : Hp) (nx : Nat) (ds : Option (List DC)) : Option Ans :=
  match endR E.P orc E.callR0 fn (some (x, ⟨t, E.n, h, nx, ds⟩)) with
  | some (re, h', nx') => k re h' nx'
  | none => none
noncomputable def noDefers {β : Type} (ds : Option (List DC)) (k e : β) : β := match ds with
  | some [] => k
  | _ => e
/-- at a function's end; x: normal or ret -/
noncomputable def quickEnd (orc : CallR) (E : Env) (fn : Func) (k : RE → Hp → Nat → Option Ans) (x : RX) (t : Tr RV) (h : Hp) (nx : Nat) (ds : Option (List DC)) : Option Ans :=
  optK (resC fn.results.toList) (fun ps => noDefers ds (getsP ps t fun l => oneK2 l fun r => k (.ret r) h nx) (slowEnd orc E fn k x t h nx ds)) (slowEnd orc E fn k x t h nx ds)
noncomputable def normK (orc : CallR) (E : Env) (fn : Func) (k : RE → Hp → Nat → Option Ans) (t : Tr RV) (h : Hp) (nx : Nat) (ds : Option (List DC)) : Option Ans := quickEnd orc E fn k .normal t h nx ds
noncomputable def retK (orc : CallR) (E : Env) (fn : Func) (k : RE → Hp → Nat → Option Ans) (x : RX) (t : Tr RV) (h : Hp) (nx : Nat) (ds : Option (List DC)) : Option Ans := match x with
  | .ret => quickEnd orc E fn k .ret t h nx ds
  | x => slowEnd orc E fn k x t h nx ds
noncomputable def codeOf (V : PV) (f : FuncId) : Option (Func × Code) := match V.func f with
  | some fn => if fn.name == "runtime.NumGoroutine" then none else match fn.body with
    | some c => some (fn, c)
    | none => none
  | none => none
noncomputable def maxK (a b : Nat) : Nat := Bool.rec a b (Nat.ble a b)
/-- the arguments, in a frame -/
noncomputable def argK {β : Type} (l : List RV) : Nat → Tr RV → (Tr RV → β) → β := List.rec (motive := fun _ => Nat → Tr RV → (Tr RV → β) → β) (fun _ t k => k t) (fun r _ ih i t k => setF r t i fun t' => ih (Nat.succ i) t' k) l
noncomputable def enterK (P : Program) (V : PV) (orc : CallR) (ck : CallK) (cr : CallR) (fn : Func) (c : Code) (args : List RV) (h : Hp) (nx : Nat) (k : RE → Hp → Nat → Option Ans) : Option Ans :=
  forceNK (maxK fn.ntmps (lenKN args)) fun n => argK args 0 .leaf fun t => execK V fn.ntmps ⟨P, ck, cr, n⟩ c t h nx (some []) (normK orc ⟨P, ck, cr, n⟩ fn k) (retK orc ⟨P, ck, cr, n⟩ fn k)
noncomputable def ansK (k : RE → Hp → Nat → Option Ans) (x : Option Ans) : Option Ans := match x with
  | some (re, h, nx) => k re h nx
  | none => none
noncomputable def bodyK (P : Program) (V : PV) (orc : CallR) (ck : CallK) (cr : CallR) (who : Who) (args : List RV) (h : Hp) (nx : Nat) (k : RE → Hp → Nat → Option Ans) : Option Ans :=
  Who.rec (fun f => optK (codeOf V f) (fun p => Prod.rec (fun fn c => optK (orc (.fn f) args h nx) (fun r => ansK k (some r)) (enterK P V orc ck cr fn c args h nx k)) p) none)
    (fun G => ansK k (roundR P cr (drawR P cr) G args h nx)) who
noncomputable def resK : RE → Hp → Nat → Option Ans := fun re h nx => some (re, h, nx)
noncomputable def callK (P : Program) (V : PV) (orc : CallR) (d : Nat) : CallK :=
  Nat.rec (motive := fun _ => CallK) (fun _ _ _ _ _ => none) (fun _ ck who args h nx k => bodyK P V orc ck (fun who args h nx => ck who args h nx resK) who args h nx k) d
/-- calls, quickly -/
noncomputable def callQ (P : Program) (V : PV) (orc : CallR) (d : Nat) : CallR := fun who args h nx => callK P V orc d who args h nx resK
end Go.Proofs.YtlimlmjljjmcpaaGreatDoor.Ax

/-
  The lean reckoning's trees and lists are those of the elder one.
-/
set_option linter.unusedVariables false
set_option linter.unusedSimpArgs false
namespace Go.Proofs.YtlimlmjljjmcpaaGreatDoor.Ax
open Go Go.RowKit

theorem two_cases (m : Nat) : (m % 2 = 0 ∧ (m + 1) % 2 = 1 ∧ (m + 1) / 2 = m / 2) ∨ (m % 2 = 1 ∧ (m + 1) % 2 = 0 ∧ (m + 1) / 2 - 1 = m / 2) := by omega
theorem bnz (m : Nat) : Nat.beq (m + 1) 0 = false := rfl
theorem b1 {m : Nat} (h : m % 2 = 1) : Nat.beq (m % 2) 1 = true := by rw [h]; rfl
theorem b0 {m : Nat} (h : m % 2 = 0) : Nat.beq (m % 2) 1 = false := by rw [h]; rfl
theorem getF_eq {α : Type} : ∀ (t : Tr α) (n : Nat), getF t n = t.get n
  | .leaf, n => rfl
  | .node v l r, 0 => rfl
  | .node v l r, m + 1 => by
    show (Nat.rec (getF l (Nat.div m 2)) (fun _ _ => getF r (Nat.div m 2)) (Nat.mod m 2) : Option α) = _
    have e1 : Nat.div m 2 = m / 2 := rfl
    have e2 : Nat.mod m 2 = m % 2 := rfl
    rw [e1, e2]
    unfold Tr.get
    rw [bnz, cond_false]
    rcases two_cases m with ⟨h1, h2, h3⟩ | ⟨h1, h2, h3⟩
    · rw [b1 h2, cond_true, h1, h3]
      exact getF_eq l _
    · rw [b0 h2, cond_false, h1, h3]
      exact getF_eq r _
theorem leafF_eq {α β : Type} (x : α) : ∀ (f n : Nat) (k : Tr α → β), leafF x f n k = Tr.setK x f .leaf n k
  | 0, n, k => rfl
  | f + 1, 0, k => rfl
  | f + 1, m + 1, k => by
    show (Nat.rec (leafF x f (Nat.div m 2) fun l => k (.node none l .leaf)) (fun _ _ => leafF x f (Nat.div m 2) fun r => k (.node none .leaf r)) (Nat.mod m 2) : β) = _
    have e1 : Nat.div m 2 = m / 2 := rfl
    have e2 : Nat.mod m 2 = m % 2 := rfl
    rw [e1, e2]
    unfold Tr.setK
    rw [bnz, cond_false]
    rcases two_cases m with ⟨h1, h2, h3⟩ | ⟨h1, h2, h3⟩
    · rw [b1 h2, cond_true, h1, h3]
      exact leafF_eq x f _ _
    · rw [b0 h2, cond_false, h1, h3]
      exact leafF_eq x f _ _
theorem setK_fuel {α β : Type} (x : α) : ∀ (f g : Nat) (t : Tr α) (n : Nat) (k : Tr α → β), n < f → n < g → Tr.setK x f t n k = Tr.setK x g t n k
  | 0, _, _, _, _, h, _ => absurd h (by omega)
  | _, 0, _, _, _, _, h => absurd h (by omega)
  | f + 1, g + 1, t, 0, k, _, _ => by cases t <;> rfl
  | f + 1, g + 1, .leaf, m + 1, k, h1, h2 => by
    unfold Tr.setK
    rw [bnz, cond_false, cond_false]
    rw [setK_fuel x f g .leaf ((m + 1) / 2) _ (by omega) (by omega), setK_fuel x f g .leaf ((m + 1) / 2 - 1) _ (by omega) (by omega)]
  | f + 1, g + 1, .node v l r, m + 1, k, h1, h2 => by
    unfold Tr.setK
    rw [bnz, cond_false, cond_false]
    rw [setK_fuel x f g l ((m + 1) / 2) _ (by omega) (by omega), setK_fuel x f g r ((m + 1) / 2 - 1) _ (by omega) (by omega)]
theorem setF_go {α β : Type} (x : α) : ∀ (t : Tr α) (n f : Nat) (k : Tr α → β), n < f → setF x t n k = Tr.setK x f t n k
  | .leaf, n, f, k, h => by
    show leafF x (Nat.succ n) n k = _
    rw [leafF_eq]
    exact setK_fuel x _ _ _ _ _ (by omega) h
  | .node v l r, n, 0, k, h => absurd h (by omega)
  | .node v l r, 0, f + 1, k, _ => rfl
  | .node v l r, m + 1, f + 1, k, h => by
    show (Nat.rec (setF x l (Nat.div m 2) fun l' => k (.node v l' r)) (fun _ _ => setF x r (Nat.div m 2) fun r' => k (.node v l r')) (Nat.mod m 2) : β) = _
    have e1 : Nat.div m 2 = m / 2 := rfl
    have e2 : Nat.mod m 2 = m % 2 := rfl
    rw [e1, e2]
    unfold Tr.setK
    rw [bnz, cond_false]
    rcases two_cases m with ⟨h1, h2, h3⟩ | ⟨h1, h2, h3⟩
    · rw [b1 h2, cond_true, h1, h3]
      exact setF_go x l _ _ _ (by omega)
    · rw [b0 h2, cond_false, h1, h3]
      exact setF_go x r _ _ _ (by omega)
theorem setF_eq {α β : Type} (x : α) (t : Tr α) (n : Nat) (k : Tr α → β) : setF x t n k = k (t.set n x) := by
  rw [setF_go x t n (n + 1) k (by omega), Tr.setK_id]
  rfl
theorem getP_go {β : Type} : ∀ (f n : Nat) (t : Tr RV) (k : RV → β), n < f → getP (pathGo f n) t k = k ((t.get n).getD undR)
  | 0, n, t, k, h => absurd h (by omega)
  | f + 1, 0, .leaf, k, _ => rfl
  | f + 1, 0, .node v l r, k, _ => by cases v <;> rfl
  | f + 1, m + 1, t, k, h => by
    unfold pathGo
    rw [bnz, cond_false]
    rcases two_cases m with ⟨h1, h2, h3⟩ | ⟨h1, h2, h3⟩
    · rw [b1 h2, cond_true]
      cases t with
      | leaf => rfl
      | node v l r =>
        refine (getP_go f _ l k (by omega)).trans ?_
        show _ = k ((bif Nat.beq (m + 1) 0 then v else bif Nat.beq ((m + 1) % 2) 1 then l.get ((m + 1) / 2) else r.get ((m + 1) / 2 - 1)).getD undR)
        rw [bnz, cond_false, b1 h2, cond_true]
    · rw [b0 h2, cond_false]
      cases t with
      | leaf => rfl
      | node v l r =>
        refine (getP_go f _ r k (by omega)).trans ?_
        show _ = k ((bif Nat.beq (m + 1) 0 then v else bif Nat.beq ((m + 1) % 2) 1 then l.get ((m + 1) / 2) else r.get ((m + 1) / 2 - 1)).getD undR)
        rw [bnz, cond_false, b0 h2, cond_false]
theorem getP_eq {β : Type} (n : Nat) (t : Tr RV) (k : RV → β) : getP (pathOf n) t k = k ((t.get n).getD undR) := getP_go _ _ _ _ (Nat.lt_succ_self n)
theorem setP_go {β : Type} (x : RV) : ∀ (f n : Nat) (t : Tr RV) (k : Tr RV → β), n < f → setP x (pathGo f n) t k = Tr.setK x f t n k
  | 0, n, t, k, h => absurd h (by omega)
  | f + 1, 0, t, k, _ => by cases t <;> rfl
  | f + 1, m + 1, t, k, h => by
    unfold pathGo
    rw [bnz, cond_false]
    rcases two_cases m with ⟨h1, h2, h3⟩ | ⟨h1, h2, h3⟩
    · rw [b1 h2, cond_true]
      cases t with
      | leaf =>
        refine (setP_go x f _ .leaf _ (by omega)).trans ?_
        rw [Tr.setK.eq_def x (f + 1)]
        simp only [bnz, cond_false, b1 h2, cond_true]
      | node v l r =>
        refine (setP_go x f _ l _ (by omega)).trans ?_
        rw [Tr.setK.eq_def x (f + 1)]
        simp only [bnz, cond_false, b1 h2, cond_true]
    · rw [b0 h2, cond_false]
      cases t with
      | leaf =>
        refine (setP_go x f _ .leaf _ (by omega)).trans ?_
        rw [Tr.setK.eq_def x (f + 1)]
        simp only [bnz, cond_false, b0 h2, cond_false]
      | node v l r =>
        refine (setP_go x f _ r _ (by omega)).trans ?_
        rw [Tr.setK.eq_def x (f + 1)]
        simp only [bnz, cond_false, b0 h2, cond_false]
theorem setP_eq {β : Type} (x : RV) (n : Nat) (t : Tr RV) (k : Tr RV → β) : setP x (pathOf n) t k = k (t.set n x) := by
  refine (setP_go x (n + 1) n t k (by omega)).trans ?_
  rw [Tr.setK_id]
  rfl
theorem getO_eq {β : Type} (o : Operand) (t : Tr RV) (k : RV → β) : getO (cOd o) t k = k (evalR t o) := by
  cases o with
  | tmp i =>
    refine (getP_eq i t k).trans ?_
    show _ = k (match t.get i with | some r => r | none => .lit undef)
    cases t.get i <;> rfl
  | const v =>
    show getO (forceV v .c) t k = _
    rw [forceV_eq]
    rfl
  | global b => rfl
  | func f => rfl
theorem getL_eq {β : Type} : ∀ (l : List Operand) (t : Tr RV) (k : List RV → β), getL (cOds l) t k = k (l.map (evalR t))
  | [], t, k => rfl
  | x :: l, t, k => by
    show getO (cOd x) t (fun r => getL (cOds l) t fun l => k (r :: l)) = _
    rw [getO_eq, getL_eq l]
    rfl
theorem setD_eq {β : Type} (d : Option Tmp) (r : RV) (t : Tr RV) (n nt : Nat) (k : Tr RV → Option β) (hd : dstOk nt d = true) (hn : nt ≤ n) : setD (cDst d) r t k = putR t n d r k := by
  cases d with
  | none => rfl
  | some d =>
    have h1 : d + 1 ≤ nt := Nat.le_of_ble_eq_true hd
    have h2 : Nat.ble (d + 1) n = true := Nat.ble_eq_true_of_le (Nat.le_trans h1 hn)
    show setP r (pathOf d) t k = _
    show _ = (bif Nat.ble (d + 1) n then putT t d r k else none)
    rw [setP_eq, h2, cond_true, putT_eq]
/-! ### lists -/
theorem forceNK_eq {β : Type} (n : Nat) (k : Nat → β) : forceNK n k = k n := by cases n <;> rfl
theorem findK_eq {β : Type} : ∀ (mem : List (Nat × List RV)) (e : Nat) (k : List RV → β) (x : β), findK mem e k x = match findM mem e with | some cs => k cs | none => x
  | [], e, k, x => rfl
  | (e', cs) :: r, e, k, x => by
    show (Bool.rec (findK r e k x) (k cs) (Nat.beq e' e) : β) = _
    unfold findM
    cases Nat.beq e' e with
    | true => rfl
    | false => exact findK_eq r e k x
theorem nthK_eq {α β : Type} : ∀ (l : List α) (n : Nat) (k : α → β) (e : β), nthK l n k e = match l[n]? with | some x => k x | none => e
  | [], n, k, e => rfl
  | x :: l, 0, k, e => rfl
  | x :: l, n + 1, k, e => by
    refine (nthK_eq l n k e).trans ?_
    rw [List.getElem?_cons_succ]
theorem dropK_eq {α β : Type} : ∀ (l : List α) (n : Nat) (k : List α → β), dropK l n k = k (l.drop n)
  | [], n, k => by simp [dropK]
  | x :: l, 0, k => rfl
  | x :: l, n + 1, k => dropK_eq l n k
theorem takeK_eq {α β : Type} : ∀ (n : Nat) (l : List α) (k : List α → β) (e : β), takeK n l k e = if n ≤ l.length then k (l.take n) else e
  | 0, l, k, e => by
    show k [] = _
    simp
  | n + 1, [], k, e => by simp [takeK]
  | n + 1, x :: l, k, e => by
    refine (takeK_eq n l (fun r => k (x :: r)) e).trans ?_
    simp
theorem over1K_eq {β : Type} (v : RV) : ∀ (l : List RV) (n : Nat) (k : List RV → β) (e : β), over1K v l n k e = if n < l.length then k (l.set n v) else e
  | [], n, k, e => by simp [over1K]
  | x :: l, 0, k, e => by
    show k (v :: l) = _
    simp
  | x :: l, n + 1, k, e => by
    refine (over1K_eq v l n (fun r => k (x :: r)) e).trans ?_
    simp
theorem overHK_eq {β : Type} : ∀ (news cs : List RV) (k : List RV → β) (e : β), overHK news cs k e = if news.length ≤ cs.length then k (news ++ cs.drop news.length) else e
  | [], cs, k, e => by simp [overHK]
  | x :: news, [], k, e => by simp [overHK]
  | x :: news, c :: cs, k, e => by
    refine (overHK_eq news cs (fun r => k (x :: r)) e).trans ?_
    simp
theorem overLK_eq {β : Type} (news : List RV) : ∀ (cs : List RV) (n : Nat) (k : List RV → β) (e : β), overLK news cs n k e = if n + news.length ≤ cs.length then k (cs.take n ++ news ++ cs.drop (n + news.length)) else e
  | [], 0, k, e => by
    refine (overHK_eq news [] k e).trans ?_
    simp
  | [], n + 1, k, e => by simp [overLK]
  | x :: cs, 0, k, e => by
    refine (overHK_eq news (x :: cs) k e).trans ?_
    simp
  | x :: cs, n + 1, k, e => by
    refine (overLK_eq news cs n (fun r => k (x :: r)) e).trans ?_
    have e1 : n + 1 + news.length = n + news.length + 1 := by omega
    simp [e1]
theorem over0_go {β : Type} : ∀ (cs l : List RV) (k : List RV → Option β), over0 cs l k = if l.length ≤ cs.length then k (l ++ cs.drop l.length) else none
  | cs, [], k => by cases cs <;> simp [over0]
  | [], x :: l, k => by simp [over0]
  | c :: cs, x :: l, k => by
    unfold over0
    rw [over0_go cs l]
    simp
theorem overO_go {β : Type} : ∀ (cs : List RV) (n : Nat) (l : List RV) (k : List RV → Option β), overO cs n l k = if n + l.length ≤ cs.length then k (cs.take n ++ l ++ cs.drop (n + l.length)) else none
  | cs, 0, l, k => by
    cases cs <;> (unfold overO; rw [over0_go]; simp)
  | [], n + 1, l, k => by simp [overO]
  | c :: cs, n + 1, l, k => by
    unfold overO
    rw [overO_go cs n l]
    have e1 : n + 1 + l.length = n + l.length + 1 := by omega
    simp [e1]
theorem takeO_go {β : Type} : ∀ (n : Nat) (l : List RV) (k : List RV → Option β), takeO n l k = if n ≤ l.length then k (l.take n) else none
  | 0, l, k => by simp [takeO]
  | n + 1, [], k => by simp [takeO]
  | n + 1, x :: l, k => by
    unfold takeO
    rw [takeO_go n l]
    simp
theorem eqK_eq : ∀ (l m : List Nat), eqK l m = eqLN l m
  | [], [] => rfl
  | [], y :: m => rfl
  | x :: l, [] => rfl
  | x :: l, y :: m => by
    show (Bool.rec false (eqK l m) (Nat.beq x y) : Bool) = _
    unfold eqLN
    rw [eqK_eq l m]
    cases Nat.beq x y <;> rfl
theorem lenEqK_eq {α β : Type} : ∀ (l : List α) (n : Nat) (k e : β), lenEqK l n k e = if l.length = n then k else e
  | [], 0, k, e => rfl
  | [], n + 1, k, e => by
    show e = _
    rw [if_neg (by simp)]
  | x :: l, 0, k, e => by
    show e = _
    rw [if_neg (by simp)]
  | x :: l, n + 1, k, e => by
    refine (lenEqK_eq l n k e).trans ?_
    simp
theorem cellsK_some {β : Type} {h : Hp} {G e : Nat} {k : TypeId → Bool → Nat → List RV → Option β} {x : Option β} {y : β} (hc : cellsK h G e k x = some y) : x = some y ∨ ∃ el z nxe cs, cellsAt h G e = some (el, z, nxe, cs) ∧ k el z nxe cs = some y := by
  unfold cellsK at hc
  rw [getF_eq] at hc
  cases hg : h.get G with
  | none => rw [hg] at hc; exact .inl hc
  | some ob =>
    rw [hg] at hc
    cases ob with
    | cells el z nxe mem =>
      have hc' : findK mem e (fun cs => k el z nxe cs) x = some y := hc
      rw [findK_eq] at hc'
      cases hf : findM mem e with
      | none => rw [hf] at hc'; exact .inl hc'
      | some cs =>
        rw [hf] at hc'
        refine .inr ⟨el, z, nxe, cs, ?_, hc'⟩
        unfold cellsAt
        rw [hg]
        simp only [hf]
    | _ => exact .inl hc
/-! ### what a value is -/
section
variable {β : Type} {v : RV} {e : Option β} {r : β}
theorem natK_some {k : IntKind → Nat → Option β} (h : natK v k e = some r) : e = some r ∨ ∃ d n, v = .lit (.int d (.ofNat n)) ∧ k d n = some r := by
  unfold natK at h
  split at h
  · exact .inr ⟨_, _, rfl, h⟩
  · exact .inl h
theorem boolK_some {k : Bool → Option β} (h : boolK v k e = some r) : e = some r ∨ ∃ b, v = .lit (.bool b) ∧ k b = some r := by
  unfold boolK at h
  split at h
  · exact .inr ⟨_, rfl, h⟩
  · exact .inl h
theorem strK_some {k : List Nat → Option β} (h : strK v k e = some r) : e = some r ∨ ∃ l, v = .str l ∧ k l = some r := by
  unfold strK at h
  split at h
  · exact .inr ⟨_, rfl, h⟩
  · exact .inl h
theorem ptrK_some {k : Nat → Nat → Nat → Option β} (h : ptrK v k e = some r) : e = some r ∨ ∃ G m off, v = .ptr G m off ∧ k G m off = some r := by
  unfold ptrK at h
  split at h
  · exact .inr ⟨_, _, _, rfl, h⟩
  · exact .inl h
theorem slK_some {k : Nat → Nat → Nat → Nat → Nat → Option β} (h : slK v k e = some r) : e = some r ∨ ∃ G m off len sz, v = .sl G m off len sz ∧ k G m off len sz = some r := by
  unfold slK at h
  split at h
  · exact .inr ⟨_, _, _, _, _, rfl, h⟩
  · exact .inl h
theorem tupK_some {k : List RV → Option β} (h : tupK v k e = some r) : e = some r ∨ ∃ l, v = .tup l ∧ k l = some r := by
  unfold tupK at h
  split at h
  · exact .inr ⟨_, rfl, h⟩
  · exact .inl h
theorem aggK_some {k : List RV → Option β} (h : aggK v k e = some r) : e = some r ∨ ∃ l, v = .agg l ∧ k l = some r := by
  unfold aggK at h
  split at h
  · exact .inr ⟨_, rfl, h⟩
  · exact .inl h
theorem ifK_some {b : Bool} {k : Option β} (h : ifK b k e = some r) : e = some r ∨ (b = true ∧ k = some r) := by
  cases b
  · exact .inl h
  · exact .inr ⟨rfl, h⟩
theorem andK_some {b c : Bool} {k : Option β} (h : andK b c k e = some r) : e = some r ∨ (b = true ∧ c = true ∧ k = some r) := by
  cases b
  · exact .inl h
  · cases c
    · exact .inl h
    · exact .inr ⟨rfl, rfl, h⟩
theorem oneK_some {k : Option β} (h : oneK v k e = some r) : e = some r ∨ (cellsR v = some [v] ∧ oneR v = true ∧ k = some r) := by
  unfold oneK at h
  split at h <;> first | exact .inl h | exact .inr ⟨rfl, rfl, h⟩
theorem allOneK_some {k : Option β} : ∀ {l : List RV}, allOneK l k e = some r → e = some r ∨ (l.all oneR = true ∧ k = some r)
  | [], h => .inr ⟨rfl, h⟩
  | x :: l, h => by
    have h' : oneK x (allOneK l k e) e = some r := h
    rcases oneK_some h' with h1 | ⟨_, h2, h3⟩
    · exact .inl h1
    · rcases allOneK_some h3 with h1 | ⟨h4, h5⟩
      · exact .inl h1
      · exact .inr ⟨by simp [h2, h4], h5⟩
end
end Go.Proofs.YtlimlmjljjmcpaaGreatDoor.Ax

/-
  The lean reckoning of one operation is the elder one's.
-/
set_option linter.unusedVariables false
set_option linter.unusedSimpArgs false
namespace Go.Proofs.YtlimlmjljjmcpaaGreatDoor.Ax
open Go Go.RowKit

theorem kIdx_inj {a b : IntKind} (h : Nat.beq (kIdx a) (kIdx b) = true) : a = b := by
  cases a <;> cases b <;> first | rfl | cases h
theorem wrap_lim {d : IntKind} {n : Nat} (h : n < limK d) : d.wrap (n : Int) = (n : Int) := by
  cases d <;> simp only [limK] at h <;> simp only [IntKind.wrap, IntKind.bits, IntKind.signed, Bool.true_and, Bool.false_and] <;> (try rw [if_neg (by simp; omega)]) <;> (try simp) <;> omega
/-- what a quick call says, the call says -/
def CK (callK : CallK) (callR0 : CallR) : Prop := ∀ who args h nx k r, callK who args h nx k = some r → ansK k (callR0 who args h nx) = some r
section
variable {P : Program} {V : PV} {gen : Option Ans} {r : Ans}
theorem add_ok {x y : RV} {k : RV → Option Ans} (hh : addK x y k gen = some r) : gen = some r ∨ ∃ q, (∀ ty a b, binR P .add ty a b x y = some q) ∧ k q = some r := by
  rcases natK_some hh with e | ⟨d1, n, rfl, hh1⟩
  · exact .inl e
  rcases natK_some hh1 with e | ⟨d2, m, rfl, hh2⟩
  · exact .inl e
  rcases andK_some hh2 with e | ⟨h1, h2, hh3⟩
  · exact .inl e
  rw [forceNK_eq] at hh3
  obtain rfl := kIdx_inj h1
  have h3 : n + m < limK d1 := Nat.le_of_ble_eq_true h2
  refine .inr ⟨_, fun ty a b => ?_, hh3⟩
  show flatO P (do eqGuard .add ty a b (.int d1 (n : Int)) (.int d1 (m : Int)); binOp .add ty (.int d1 (n : Int)) (.int d1 (m : Int))) = _
  have e : evalP P (do eqGuard .add ty a b (.int d1 (n : Int)) (.int d1 (m : Int)); binOp .add ty (.int d1 (n : Int)) (.int d1 (m : Int))) = some (.int d1 ((n + m : Nat) : Int)) := by
    have hw := wrap_lim h3
    simp only [eqGuard, binOp, Op.intArith, ne_eq, not_true_eq_false, if_false]
    show some (Value.int d1 (d1.wrap ((n : Int) + (m : Int)))) = _
    rw [← hw]
    simp
  unfold flatO
  rw [e]
  simp only [forceV_eq]
  rfl
theorem sub_ok {x y : RV} {k : RV → Option Ans} (hh : subK x y k gen = some r) : gen = some r ∨ ∃ q, (∀ ty a b, binR P .sub ty a b x y = some q) ∧ k q = some r := by
  rcases natK_some hh with e | ⟨d1, n, rfl, hh1⟩
  · exact .inl e
  rcases natK_some hh1 with e | ⟨d2, m, rfl, hh2⟩
  · exact .inl e
  rcases andK_some hh2 with e | ⟨h1, h2, hh3⟩
  · exact .inl e
  rw [forceNK_eq] at hh3
  obtain rfl := kIdx_inj h1
  have h3 : m ≤ n ∧ n < limK d1 := by
    unfold andK at h2
    cases ha : Nat.ble m n with
    | false => rw [ha] at h2; cases h2
    | true =>
      cases hb : Nat.ble (Nat.succ n) (limK d1) with
      | false => rw [ha, hb] at h2; cases h2
      | true => exact ⟨Nat.le_of_ble_eq_true ha, Nat.le_of_ble_eq_true hb⟩
  refine .inr ⟨_, fun ty a b => ?_, hh3⟩
  show flatO P (do eqGuard .sub ty a b (.int d1 (n : Int)) (.int d1 (m : Int)); binOp .sub ty (.int d1 (n : Int)) (.int d1 (m : Int))) = _
  have e : evalP P (do eqGuard .sub ty a b (.int d1 (n : Int)) (.int d1 (m : Int)); binOp .sub ty (.int d1 (n : Int)) (.int d1 (m : Int))) = some (.int d1 ((n - m : Nat) : Int)) := by
    have hw := wrap_lim (d := d1) (n := n - m) (by omega)
    simp only [eqGuard, binOp, Op.intArith, ne_eq, not_true_eq_false, if_false]
    show some (Value.int d1 (d1.wrap ((n : Int) - (m : Int)))) = _
    rw [← hw, Int.ofNat_sub h3.1]
  unfold flatO
  rw [e]
  simp only [forceV_eq]
  rfl
/-- how three answers say what a comparison is -/
def cmpB (lt eq gt : Bool) (n m : Nat) : Bool := if n = m then eq else if n ≤ m then lt else gt
theorem boolKK_eq {β : Type} (b : Bool) (k : RV → β) : boolKK b k = k (.lit (.bool b)) := by cases b <;> rfl
theorem cmpK_some {lt eq gt : Bool} {x y : RV} {k : RV → Option Ans} (hh : cmpK lt eq gt x y k gen = some r) : gen = some r ∨ ∃ d n m, x = .lit (.int d (.ofNat n)) ∧ y = .lit (.int d (.ofNat m)) ∧ k (.lit (.bool (cmpB lt eq gt n m))) = some r := by
  rcases natK_some hh with e | ⟨d1, n, rfl, hh1⟩
  · exact .inl e
  rcases natK_some hh1 with e | ⟨d2, m, rfl, hh2⟩
  · exact .inl e
  rcases ifK_some hh2 with e | ⟨h1, hh3⟩
  · exact .inl e
  obtain rfl := kIdx_inj h1
  refine .inr ⟨d1, n, m, rfl, rfl, ?_⟩
  unfold cmpB
  cases he : Nat.beq n m with
  | true =>
    rw [he] at hh3
    rw [if_pos (Nat.eq_of_beq_eq_true he)]
    have : boolKK eq k = some r := hh3
    rwa [boolKK_eq] at this
  | false =>
    rw [he] at hh3
    rw [if_neg (fun e => by rw [e, Nat.beq_refl] at he; cases he)]
    cases hl : Nat.ble n m with
    | true =>
      rw [hl] at hh3
      rw [if_pos (Nat.le_of_ble_eq_true hl)]
      have : boolKK lt k = some r := hh3
      rwa [boolKK_eq] at this
    | false =>
      rw [hl] at hh3
      rw [if_neg (fun e => by rw [Nat.ble_eq_true_of_le e] at hl; cases hl)]
      have : boolKK gt k = some r := hh3
      rwa [boolKK_eq] at this
theorem flat_cmp {op : BinOp} {ty : TypeId} {a b : Operand} {d1 : IntKind} {n m : Nat} {q : Bool} (e : evalP P (do eqGuard op ty a b (.int d1 (n : Int)) (.int d1 (m : Int)); binOp op ty (.int d1 (n : Int)) (.int d1 (m : Int))) = some (.bool q)) : binR P op ty a b (.lit (.int d1 (.ofNat n))) (.lit (.int d1 (.ofNat m))) = some (.lit (.bool q)) := by
  show flatO P (do eqGuard op ty a b (.int d1 (n : Int)) (.int d1 (m : Int)); binOp op ty (.int d1 (n : Int)) (.int d1 (m : Int))) = _
  unfold flatO
  rw [e]
  simp only [forceV_eq]
  rfl
theorem cmp_lss {ty : TypeId} {a b : Operand} {d1 : IntKind} {n m : Nat} : binR P .lss ty a b (.lit (.int d1 (.ofNat n))) (.lit (.int d1 (.ofNat m))) = some (.lit (.bool (cmpB true false false n m))) := by
  refine flat_cmp ?_
  simp only [eqGuard, binOp, Op.intCmp, ne_eq, not_true_eq_false, if_false]
  show some (Value.bool (decide ((n : Int) < (m : Int)))) = _
  unfold cmpB
  congr 2
  split
  · simp; omega
  · split <;> simp <;> omega
theorem cmp_leq {ty : TypeId} {a b : Operand} {d1 : IntKind} {n m : Nat} : binR P .leq ty a b (.lit (.int d1 (.ofNat n))) (.lit (.int d1 (.ofNat m))) = some (.lit (.bool (cmpB true true false n m))) := by
  refine flat_cmp ?_
  simp only [eqGuard, binOp, Op.intCmp, ne_eq, not_true_eq_false, if_false]
  show some (Value.bool (decide ((n : Int) ≤ (m : Int)))) = _
  unfold cmpB
  congr 2
  split
  · simp; omega
  · split <;> simp <;> omega
theorem cmp_gtr {ty : TypeId} {a b : Operand} {d1 : IntKind} {n m : Nat} : binR P .gtr ty a b (.lit (.int d1 (.ofNat n))) (.lit (.int d1 (.ofNat m))) = some (.lit (.bool (cmpB false false true n m))) := by
  refine flat_cmp ?_
  simp only [eqGuard, binOp, Op.intCmp, ne_eq, not_true_eq_false, if_false]
  show some (Value.bool (decide ((n : Int) > (m : Int)))) = _
  unfold cmpB
  congr 2
  split
  · simp; omega
  · split <;> simp <;> omega
theorem cmp_geq {ty : TypeId} {a b : Operand} {d1 : IntKind} {n m : Nat} : binR P .geq ty a b (.lit (.int d1 (.ofNat n))) (.lit (.int d1 (.ofNat m))) = some (.lit (.bool (cmpB false true true n m))) := by
  refine flat_cmp ?_
  simp only [eqGuard, binOp, Op.intCmp, ne_eq, not_true_eq_false, if_false]
  show some (Value.bool (decide ((n : Int) ≥ (m : Int)))) = _
  unfold cmpB
  congr 2
  split
  · simp; omega
  · split <;> simp <;> omega
theorem cmp_eql {ty : TypeId} {a b : Operand} {d1 : IntKind} {n m : Nat} : binR P .eql ty a b (.lit (.int d1 (.ofNat n))) (.lit (.int d1 (.ofNat m))) = some (.lit (.bool (cmpB false true false n m))) := by
  refine flat_cmp ?_
  simp only [eqGuard, binOp, Op.intCmp, ne_eq, not_true_eq_false, if_false]
  show some (Value.bool ((n : Int) == (m : Int))) = _
  unfold cmpB
  congr 2
  split
  · simp; omega
  · split <;> simp <;> omega
theorem cmp_neq {ty : TypeId} {a b : Operand} {d1 : IntKind} {n m : Nat} : binR P .neq ty a b (.lit (.int d1 (.ofNat n))) (.lit (.int d1 (.ofNat m))) = some (.lit (.bool (cmpB true false true n m))) := by
  refine flat_cmp ?_
  simp only [eqGuard, binOp, Op.intCmp, ne_eq, not_true_eq_false, if_false]
  show some (Value.bool ((n : Int) != (m : Int))) = _
  unfold cmpB
  congr 2
  split
  · simp; omega
  · split <;> simp <;> omega
theorem seqK_some {ne : Bool} {x y : RV} {k : RV → Option Ans} (hh : seqK ne x y k gen = some r) : gen = some r ∨ ∃ l m, x = .str l ∧ y = .str m ∧ k (.lit (.bool (if eqLN l m = true then !ne else ne))) = some r := by
  rcases strK_some hh with e | ⟨l, rfl, hh1⟩
  · exact .inl e
  rcases strK_some hh1 with e | ⟨m, rfl, hh2⟩
  · exact .inl e
  refine .inr ⟨l, m, rfl, rfl, ?_⟩
  rw [eqK_eq] at hh2
  cases he : eqLN l m with
  | true =>
    rw [he] at hh2
    have : boolKK (!ne) k = some r := hh2
    rw [boolKK_eq] at this
    simpa using this
  | false =>
    rw [he] at hh2
    have : boolKK ne k = some r := hh2
    rw [boolKK_eq] at this
    simpa using this
end
section
variable {E : Env} {V : PV} {t : Tr RV} {h : Hp} {nx : Nat} {ds : Option (List DC)} {kn : KN} {kx : KX} {r : Ans} {ops : Array Oper} {nt : Nat} {dst : Option Tmp} {d : Tmp} {op : Op} {ty ty' : TypeId} {pos : String} {after : Array Edge} {guard : Option (Nat × Bool)}
theorem setP_put (q : RV) (hd : d + 1 ≤ nt) (hn : nt ≤ E.n) (k : Tr RV → Option Ans) : setP q (pathOf d) t k = match (putR t E.n (some d) q some) with | some t' => k t' | none => none := by
  have h2 : Nat.ble (d + 1) E.n = true := Nat.ble_eq_true_of_le (Nat.le_trans hd hn)
  show _ = match (bif Nat.ble (d + 1) E.n then putT t d q some else none) with | some t' => k t' | none => none
  rw [setP_eq, h2, cond_true, putT_eq]
theorem putR_bind {β : Type} (q : RV) (k : Tr RV → Option β) : putR t E.n dst q k = match (putR t E.n dst q some) with | some t' => k t' | none => none := by
  cases dst with
  | none => rfl
  | some d =>
    show (bif Nat.ble (d + 1) E.n then putT t d q k else none) = match (bif Nat.ble (d + 1) E.n then putT t d q some else none) with | some t' => k t' | none => none
    cases Nat.ble (d + 1) E.n with
    | true => rw [cond_true, cond_true, putT_eq, putT_eq]
    | false => rfl
theorem gen_ret {o : Oper} {q : RV} {h' : Hp} {nx' : Nat} (hw : wantedR t ops o = some true) (hp : panicR t o = none) (ho : opR E.P E.callR0 t h nx o = some (.ret q, h', nx')) (hk : (match (putR t E.n o.dst q some) with | some t' => kn t' h' nx' ds | none => none) = some r) : genK ops o E t h nx ds kn kx = some r := by
  rw [genK_eq]
  have e : runOps E.P E.callR0 ops [o] ⟨t, E.n, h, nx, ds⟩ = match (putR t E.n o.dst q some) with | some t' => some (.normal, ⟨t', E.n, h', nx', ds⟩) | none => none := by
    unfold runOps
    simp only [hw, hp, ho]
    rw [putR_bind]
    rfl
  rw [e]
  cases hq : putR t E.n o.dst q some with
  | none => rw [hq] at hk; cases hk
  | some t' => rw [hq] at hk; exact hk
section
variable (hw : wantedR t ops ⟨dst, op, ty', pos, after, guard⟩ = some true)
include hw
theorem gen_put {q : RV} {h' : Hp} {nx' : Nat} (hd : dst = some d) (hd1 : d + 1 ≤ nt) (hn : nt ≤ E.n) (hp : panicR t ⟨dst, op, ty', pos, after, guard⟩ = none) (ho : opR E.P E.callR0 t h nx ⟨dst, op, ty', pos, after, guard⟩ = some (.ret q, h', nx')) (hk : setP q (pathOf d) t (fun t' => kn t' h' nx' ds) = some r) : genK ops ⟨dst, op, ty', pos, after, guard⟩ E t h nx ds kn kx = some r := by
  subst hd
  rw [setP_put q hd1 hn] at hk
  exact gen_ret hw hp ho hk
theorem gen_pure {q : RV} (hd : dst = some d) (hd1 : d + 1 ≤ nt) (hn : nt ≤ E.n) (hc : clsR E.P ⟨dst, op, ty', pos, after, guard⟩ = .pure) (hp : panicR t ⟨dst, op, ty', pos, after, guard⟩ = none) (hq : pureR E.P t ⟨dst, op, ty', pos, after, guard⟩ = some q) (hk : toK (pathOf d) t h nx ds kn q = some r) : genK ops ⟨dst, op, ty', pos, after, guard⟩ E t h nx ds kn kx = some r := by
  refine gen_put hw hd hd1 hn hp ?_ hk
  unfold opR
  rw [hc]
  simp only [hq]
theorem gen_read {q : RV} (hd : dst = some d) (hd1 : d + 1 ≤ nt) (hn : nt ≤ E.n) (hc : clsR E.P ⟨dst, op, ty', pos, after, guard⟩ = .read) (hp : panicR t ⟨dst, op, ty', pos, after, guard⟩ = none) (hq : readR E.P t h ⟨dst, op, ty', pos, after, guard⟩ = some q) (hk : toK (pathOf d) t h nx ds kn q = some r) : genK ops ⟨dst, op, ty', pos, after, guard⟩ E t h nx ds kn kx = some r := by
  refine gen_put hw hd hd1 hn hp ?_ hk
  unfold opR
  rw [hc]
  simp only [hq]
theorem gen_alloc {q : RV} {ob : OB} (hd : dst = some d) (hd1 : d + 1 ≤ nt) (hn : nt ≤ E.n) (hc : clsR E.P ⟨dst, op, ty', pos, after, guard⟩ = .alloc) (hp : panicR t ⟨dst, op, ty', pos, after, guard⟩ = none) (hq : allocR E.P t nx ⟨dst, op, ty', pos, after, guard⟩ = some (q, ob)) (hk : newK ob h nx (fun h' nx' => setP q (pathOf d) t fun t' => kn t' h' nx' ds) = some r) : genK ops ⟨dst, op, ty', pos, after, guard⟩ E t h nx ds kn kx = some r := by
  unfold newK at hk
  rw [forceNK_eq, setF_eq] at hk
  refine gen_put hw hd hd1 hn hp ?_ hk
  unfold opR
  rw [hc]
  simp only [hq, forceN_eq, putT_eq]
theorem gen_store (hV : V.Ok E.P) {x v : Operand} {h' : Hp} (hop : op = .store ty x v) (hq : storeR E.P h ty (evalR t x) (evalR t v) some = some h') (hd : dstOk nt dst = true) (hn : nt ≤ E.n) (hk : setD (cDst dst) undR t (fun t' => kn t' h' nx ds) = some r) : genK ops ⟨dst, op, ty', pos, after, guard⟩ E t h nx ds kn kx = some r := by
  subst hop
  refine gen_ret (q := undR) (h' := h') (nx' := nx) hw rfl ?_ ?_
  · have : effR E.P E.callR0 t h nx ⟨dst, .store ty x v, ty', pos, after, guard⟩ = some (.ret undR, h', nx) := by
      show unitR (storeR E.P h ty (evalR t x) (evalR t v) some) nx = _
      rw [hq]
      rfl
    exact this
  · rw [setD_eq dst undR t E.n nt _ hd hn, putR_bind] at hk
    exact hk
theorem gen_call {f : FuncId} {args : Array Operand} {tys : Array TypeId} (hck : CK E.callK E.callR0) (hV : V.Ok E.P) (hop : op = .call ⟨.value (.func f), args, tys⟩) (hb : bodyOf V f = true) (hd : dstOk nt dst = true) (hn : nt ≤ E.n) (hk : iCall (cDst dst) f (cOds args.toList) E t h nx ds kn kx = some r) : genK ops ⟨dst, op, ty', pos, after, guard⟩ E t h nx ds kn kx = some r := by
  subst hop
  have hk' : getL (cOds args.toList) t (fun l => E.callK (.fn f) l h nx (backK (cDst dst) t ds kn kx)) = some r := hk
  rw [getL_eq] at hk'
  have hc := hck _ _ _ _ _ _ hk'
  cases hr : E.callR0 (.fn f) (args.toList.map (evalR t)) h nx with
  | none => rw [hr] at hc; cases hc
  | some q =>
    obtain ⟨re, h', nx'⟩ := q
    rw [hr] at hc
    have hc' : backK (cDst dst) t ds kn kx re h' nx' = some r := hc
    have ho : opR E.P E.callR0 t h nx ⟨dst, .call ⟨.value (.func f), args, tys⟩, ty', pos, after, guard⟩ = some (re, h', nx') := by
      have hbody : ∃ fn c, E.P.funcs[f]? = some fn ∧ fn.body = some c := by
        unfold bodyOf at hb
        split at hb
        · rename_i fn hfn
          cases hbb : fn.body with
          | none => rw [hbb] at hb; cases hb
          | some c => exact ⟨fn, c, hV.func _ _ hfn, hbb⟩
        · cases hb
      obtain ⟨fn, c, hfn, hbb⟩ := hbody
      show effR E.P E.callR0 t h nx ⟨dst, .call ⟨.value (.func f), args, tys⟩, ty', pos, after, guard⟩ = _
      have e1 : externR E.P f (args.toList.map (evalR t)) = none := by
        unfold externR
        rw [hfn]
        simp only [hbb]
      have e2 : cloneR E.P f (args.toList.map (evalR t)) h nx = none := by
        unfold cloneR
        rw [hfn]
        simp only [hbb]
      show (match externR E.P f (args.toList.map (evalR t)) with
        | some r => some (RE.ret r, h, nx)
        | none => match cloneR E.P f (args.toList.map (evalR t)) h nx with
          | some r => some r
          | none => E.callR0 (.fn f) (args.toList.map (evalR t)) h nx) = _
      rw [e1, e2]
      exact hr
    cases re with
    | ret q =>
      refine gen_ret hw rfl ho ?_
      have hc2 : setD (cDst dst) q t (fun t' => kn t' h' nx' ds) = some r := hc'
      rw [setD_eq dst q t E.n nt _ hd hn, putR_bind] at hc2
      exact hc2
    | pan v =>
      rw [genK_eq]
      have e : runOps E.P E.callR0 ops [⟨dst, .call ⟨.value (.func f), args, tys⟩, ty', pos, after, guard⟩] ⟨t, E.n, h, nx, ds⟩ = some (.panic v, ⟨t, E.n, h', nx', ds⟩) := by
        unfold runOps
        have hp : panicR t ⟨dst, .call ⟨.value (.func f), args, tys⟩, ty', pos, after, guard⟩ = none := rfl
        simp only [hw, hp, ho]
      rw [e]
      exact hc'
end
/-- one reckoning of calls says no more than another -/
def Le (cr cr' : CallR) : Prop := ∀ who args h nx x, cr who args h nx = some x → cr' who args h nx = some x
theorem effR_mono {P : Program} {cr cr' : CallR} (hl : Le cr cr') {t : Tr RV} {h : Hp} {nx : Nat} {o : Oper} {x : RE × Hp × Nat} (hh : effR P cr t h nx o = some x) : effR P cr' t h nx o = some x := by
  obtain ⟨dst, op, ty, pos, after, guard⟩ := o
  cases op with
  | call c =>
    obtain ⟨callee, args, tys⟩ := c
    cases callee with
    | value f =>
      have e : ∀ cr, effR P cr t h nx ⟨dst, .call ⟨.value f, args, tys⟩, ty, pos, after, guard⟩ = match yldR (evalR t f) with
        | some G => cr (.yld G) (args.toList.map (evalR t)) h nx
        | none => match targetR (evalR t f) (args.toList.map (evalR t)) with
          | some (f, ags) => match externR P f ags with
            | some r => some (.ret r, h, nx)
            | none => match cloneR P f ags h nx with
              | some r => some r
              | none => cr (.fn f) ags h nx
          | none => none := fun cr => rfl
      rw [e] at hh ⊢
      split at hh
      · exact hl _ _ _ _ _ hh
      · split at hh <;> try cases hh
        split at hh
        · exact hh
        · split at hh
          · exact hh
          · exact hl _ _ _ _ _ hh
    | builtin b => exact hh
    | invoke _ _ => exact hh
  | next it b => cases b <;> exact hh
  | _ => exact hh
theorem opR_mono {P : Program} {cr cr' : CallR} (hl : Le cr cr') {t : Tr RV} {h : Hp} {nx : Nat} {o : Oper} {x : RE × Hp × Nat} (hh : opR P cr t h nx o = some x) : opR P cr' t h nx o = some x := by
  unfold opR at hh ⊢
  split at hh
  · exact hh
  · exact hh
  · exact hh
  · exact effR_mono hl hh
end
theorem putR_bind2 {β : Type} {t : Tr RV} {n : Nat} {dst : Option Tmp} {q : RV} {k : Tr RV → Option β} : putR t n dst q k = match (putR t n dst q some) with | some t' => k t' | none => none := by
  cases dst with
  | none => rfl
  | some d =>
    show (bif Nat.ble (d + 1) n then putT t d q k else none) = match (bif Nat.ble (d + 1) n then putT t d q some else none) with | some t' => k t' | none => none
    cases Nat.ble (d + 1) n with
    | true => rw [cond_true, cond_true, putT_eq, putT_eq]
    | false => rfl
theorem putR_mono {β : Type} {t : Tr RV} {n : Nat} {dst : Option Tmp} {q : RV} {k k' : Tr RV → Option β} {x : β} (hk : ∀ t', k t' = some x → k' t' = some x) (hh : putR t n dst q k = some x) : putR t n dst q k' = some x := by
  rw [putR_bind2] at hh ⊢
  split at hh
  · exact hk _ hh
  · cases hh
theorem runOps_mono {P : Program} {cr cr' : CallR} (hl : Le cr cr') {ops : Array Oper} : ∀ {l : List Oper} {s : St} {x : RX × St}, runOps P cr ops l s = some x → runOps P cr' ops l s = some x
  | [], s, x, hh => hh
  | o :: l, s, x, hh => by
    rw [runOps] at hh ⊢
    cases hw : wantedR s.tm ops o with
    | none => rw [hw] at hh; cases hh
    | some b =>
      rw [hw] at hh
      cases b with
      | false => exact putR_mono (fun t' => runOps_mono hl) hh
      | true =>
        simp only at hh ⊢
        cases hp : panicR s.tm o with
        | some v => rw [hp] at hh; exact hh
        | none =>
          rw [hp] at hh
          simp only at hh ⊢
          cases ho : opR P cr s.tm s.h s.nx o with
          | some q =>
            obtain ⟨re, h', nx'⟩ := q
            rw [ho] at hh
            rw [opR_mono hl ho]
            cases re with
            | ret r => exact putR_mono (fun t' => runOps_mono hl) hh
            | pan v => exact hh
          | none =>
            rw [ho] at hh
            simp only at hh
            cases hd : deferR s.tm o with
            | none => rw [hd] at hh; cases hh
            | some fa =>
              obtain ⟨f, ags⟩ := fa
              rw [hd] at hh
              have hno : opR P cr' s.tm s.h s.nx o = none := by
                obtain ⟨dst, op, ty, pos, after, guard⟩ := o
                cases op with
                | defer c => rfl
                | _ => cases hd
              rw [hno]
              simp only at hh ⊢
              cases hds : s.ds with
              | none => rw [hds] at hh; cases hh
              | some l' =>
                rw [hds] at hh
                exact putR_mono (fun t' => runOps_mono hl) hh
/-- the same, with another reckoning of calls -/
def Env.up (E : Env) (cr : CallR) : Env := ⟨E.P, E.callK, cr, E.n⟩
theorem outK_mono {kn : KN} {kx : KX} {x x' : Option (RX × St)} {r : Ans} (hx : ∀ y, x = some y → x' = some y) (h : outK kn kx x = some r) : outK kn kx x' = some r := by
  cases x with
  | none => cases h
  | some q => rw [hx q rfl]; exact h
section
variable {E : Env} {V : PV} {t : Tr RV} {h : Hp} {nx : Nat} {ds : Option (List DC)} {kn : KN} {kx : KX} {r : Ans} {ops : Array Oper} {nt : Nat} {dst : Option Tmp} {d : Tmp} {op : Op} {ty ty' : TypeId} {pos : String} {after : Array Edge} {guard : Option (Nat × Bool)}
theorem gen_up {cr : CallR} (hl : Le E.callR0 cr) {o : Oper} (hh : genK ops o E t h nx ds kn kx = some r) : genK ops o (E.up cr) t h nx ds kn kx = some r := outK_mono (fun y hy => runOps_mono hl hy) hh
theorem dstOk_some (hd1 : d + 1 ≤ nt) : dstOk nt (some d) = true := Nat.ble_eq_true_of_le hd1
theorem lenKN_eq {α : Type} : ∀ l : List α, lenKN l = l.length
  | [] => rfl
  | x :: l => congrArg Nat.succ (lenKN_eq l)
theorem forceRs_lit {β : Type} : ∀ (l : List Value) (k : List RV → β), forceRs (l.map .lit) k = k (l.map ofV)
  | [], k => rfl
  | v :: l, k => by
    show forceV v (fun r => forceRs (l.map .lit) fun l => k (r :: l)) = _
    rw [forceV_eq, forceRs_lit l]
    rfl
theorem getL1_some {β : Type} {k : List RV → Option β} {e : Option β} {y : β} : ∀ {l : List Operand}, getL1 (cOds l) t k e = some y → e = some y ∨ ((∀ x ∈ l, cellsR (evalR t x) = some [evalR t x]) ∧ k (l.map (evalR t)) = some y) := by
  intro l
  induction l generalizing k with
  | nil => exact fun hh => .inr ⟨fun x hx => by (cases hx), hh⟩
  | cons x l ih =>
    intro hh
    have hh' : getO (cOd x) t (fun r => oneK r (getL1 (cOds l) t (fun l => k (r :: l)) e) e) = some y := hh
    rw [getO_eq] at hh'
    rcases oneK_some hh' with e1 | ⟨c1, _, h2⟩
    · exact .inl e1
    rcases ih h2 with e1 | ⟨c2, h3⟩
    · exact .inl e1
    · refine .inr ⟨fun z hz => ?_, h3⟩
      rcases List.mem_cons.1 hz with rfl | hz
      · exact c1
      · exact c2 z hz
theorem fill_dense : ∀ (parts : List (Nat × Operand)) (pre post : List RV) (k : List RV → Option (RV × OB)) (n : Nat), denseP n parts = true → pre.length = n → post.length = parts.length → (∀ x ∈ parts.map (·.2), cellsR (evalR t x) = some [evalR t x]) →
    fillR (fun k => some (k * 1, 1)) (parts.map fun p => (p.1, evalR t p.2)) (pre ++ post) k = k (pre ++ parts.map fun p => evalR t p.2)
  | [], pre, post, k, n, _, _, hl, _ => by
    have : post = [] := List.eq_nil_of_length_eq_zero hl
    subst this
    simp [fillR]
  | (i, x) :: parts, pre, post, k, n, hdn, hp, hl, hc => by
    unfold denseP at hdn
    rw [Bool.and_eq_true] at hdn
    have hi := Nat.eq_of_beq_eq_true hdn.1
    subst hi
    rcases post with _ | ⟨z, post⟩
    · simp at hl
    have hx := hc x (by simp)
    simp only [List.map_cons, fillR, hx]
    have e1 : Nat.beq [evalR t x].length 1 = true := rfl
    rw [e1, cond_true, overO_go, if_pos (by simp [hp])]
    have e2 : (pre ++ z :: post).take (i * 1) ++ [evalR t x] ++ (pre ++ z :: post).drop (i * 1 + [evalR t x].length) = (pre ++ [evalR t x]) ++ post := by
      subst hp
      simp
    rw [e2]
    rw [fill_dense parts (pre ++ [evalR t x]) post k (i + 1) hdn.2 (by simp [hp]) (by simpa using hl) fun y hy => hc y (by simp only [List.map_cons, List.mem_cons]; exact .inr hy)]
    simp
section
variable (hn : nt ≤ E.n)
include hn
theorem cmpI_ok {bop : BinOp} {x y : Operand} {q : TypeId} {lt eq gt : Bool} (hd1 : d + 1 ≤ nt) (hw : wantedR t ops ⟨some d, .binOp bop ty x y q, ty', pos, after, guard⟩ = some true)
    (hb : ∀ d1 n m, binR E.P bop ty x y (.lit (.int d1 (.ofNat n))) (.lit (.int d1 (.ofNat m))) = some (.lit (.bool (cmpB lt eq gt n m))))
    (hs : stepI (.cmp (pathOf d) lt eq gt (cOd x) (cOd y) ops ⟨some d, .binOp bop ty x y q, ty', pos, after, guard⟩) E t h nx ds kn kx = some r) : genK ops ⟨some d, .binOp bop ty x y q, ty', pos, after, guard⟩ E t h nx ds kn kx = some r := by
  have hs' : getO (cOd x) t (fun a => getO (cOd y) t fun b => cmpK lt eq gt a b (toK (pathOf d) t h nx ds kn) (genK ops ⟨some d, .binOp bop ty x y q, ty', pos, after, guard⟩ E t h nx ds kn kx)) = some r := hs
  rw [getO_eq, getO_eq] at hs'
  rcases cmpK_some hs' with e | ⟨d1, n, m, e1, e2, hk⟩
  · exact e
  refine gen_pure hw rfl hd1 hn rfl rfl ?_ hk
  show binR E.P bop ty x y (evalR t x) (evalR t y) = _
  rw [e1, e2]
  exact hb _ _ _
theorem seqI_ok {bop : BinOp} {x y : Operand} {q : TypeId} {ne : Bool} (hd1 : d + 1 ≤ nt) (hw : wantedR t ops ⟨some d, .binOp bop ty x y q, ty', pos, after, guard⟩ = some true)
    (hb : ∀ l m, strR bop l m = some (.lit (.bool (if eqLN l m = true then !ne else ne))))
    (hs : stepI (.seq (pathOf d) ne (cOd x) (cOd y) ops ⟨some d, .binOp bop ty x y q, ty', pos, after, guard⟩) E t h nx ds kn kx = some r) : genK ops ⟨some d, .binOp bop ty x y q, ty', pos, after, guard⟩ E t h nx ds kn kx = some r := by
  have hs' : getO (cOd x) t (fun a => getO (cOd y) t fun b => seqK ne a b (toK (pathOf d) t h nx ds kn) (genK ops ⟨some d, .binOp bop ty x y q, ty', pos, after, guard⟩ E t h nx ds kn kx)) = some r := hs
  rw [getO_eq, getO_eq] at hs'
  rcases seqK_some hs' with e | ⟨l, m, e1, e2, hk⟩
  · exact e
  refine gen_pure hw rfl hd1 hn rfl rfl ?_ hk
  show binR E.P bop ty x y (evalR t x) (evalR t y) = _
  rw [e1, e2]
  exact hb _ _
theorem binI_ok {bop : BinOp} {x y : Operand} {q : TypeId} (hd1 : d + 1 ≤ nt) (hw : wantedR t ops ⟨some d, .binOp bop ty x y q, ty', pos, after, guard⟩ = some true)
    (hs : stepI (cBin V bop ty (pathOf d) x y ops ⟨some d, .binOp bop ty x y q, ty', pos, after, guard⟩) E t h nx ds kn kx = some r) : genK ops ⟨some d, .binOp bop ty x y q, ty', pos, after, guard⟩ E t h nx ds kn kx = some r := by
  unfold cBin at hs
  split at hs
  · unfold cCmp at hs
    split at hs
    · have hs' : getO (cOd x) t (fun a => getO (cOd y) t fun b => addK a b (toK (pathOf d) t h nx ds kn) (genK ops ⟨some d, .binOp .add ty x y q, ty', pos, after, guard⟩ E t h nx ds kn kx)) = some r := hs
      rw [getO_eq, getO_eq] at hs'
      rcases add_ok (P := E.P) hs' with e | ⟨v, hv, hk⟩
      · exact e
      · exact gen_pure hw rfl hd1 hn rfl rfl (hv _ _ _) hk
    · have hs' : getO (cOd x) t (fun a => getO (cOd y) t fun b => subK a b (toK (pathOf d) t h nx ds kn) (genK ops ⟨some d, .binOp .sub ty x y q, ty', pos, after, guard⟩ E t h nx ds kn kx)) = some r := hs
      rw [getO_eq, getO_eq] at hs'
      rcases sub_ok (P := E.P) hs' with e | ⟨v, hv, hk⟩
      · exact e
      · exact gen_pure hw rfl hd1 hn rfl rfl (hv _ _ _) hk
    · exact cmpI_ok hn hd1 hw (fun _ _ _ => cmp_lss) hs
    · exact cmpI_ok hn hd1 hw (fun _ _ _ => cmp_leq) hs
    · exact cmpI_ok hn hd1 hw (fun _ _ _ => cmp_gtr) hs
    · exact cmpI_ok hn hd1 hw (fun _ _ _ => cmp_geq) hs
    · exact cmpI_ok hn hd1 hw (fun _ _ _ => cmp_eql) hs
    · exact cmpI_ok hn hd1 hw (fun _ _ _ => cmp_neq) hs
    · exact hs
  · unfold cStr at hs
    split at hs
    · refine seqI_ok hn hd1 hw (fun l m => ?_) hs
      show boolR (eqLN l m) = _
      cases eqLN l m <;> rfl
    · refine seqI_ok hn hd1 hw (fun l m => ?_) hs
      show boolR (!eqLN l m) = _
      cases eqLN l m <;> rfl
    · exact hs
  · exact hs
theorem fldI_ok (hV : V.Ok E.P) {x : Operand} {f : Nat} (hd1 : d + 1 ≤ nt) (hw : wantedR t ops ⟨some d, .fieldAddr ty x f, ty', pos, after, guard⟩ = some true)
    (hs : stepI (cFld V ty (pathOf d) x f ops ⟨some d, .fieldAddr ty x f, ty', pos, after, guard⟩) E t h nx ds kn kx = some r) : genK ops ⟨some d, .fieldAddr ty x f, ty', pos, after, guard⟩ E t h nx ds kn kx = some r := by
  unfold cFld at hs
  split at hs
  case h_2 => exact hs
  rename_i fields hu
  split at hs
  case h_2 => exact hs
  rename_i fl hfl
  split at hs
  case h_2 => exact hs
  rename_i i hi
  cases hz : Nat.beq i.size 0 with
  | true => rw [hz] at hs; exact hs
  | false =>
  rw [hz, cond_false, forceN_eq] at hs
  have hs' : getO (cOd x) t (fun a => fldK a fl.offset (toK (pathOf d) t h nx ds kn) (genK ops ⟨some d, .fieldAddr ty x f, ty', pos, after, guard⟩ E t h nx ds kn kx)) = some r := hs
  rw [getO_eq] at hs'
  rcases ptrK_some hs' with e | ⟨G, m, off, e1, hk⟩
  · exact e
  rw [forceNK_eq] at hk
  refine gen_pure hw rfl hd1 hn rfl rfl ?_ hk
  show fieldR E.P ty (evalR t x) f = _
  unfold fieldR
  rw [hV.under hu]
  have hz2 : ¬ i.size = 0 := fun e => by rw [e] at hz; cases hz
  simp only [hfl, hV.info _ _ hi, if_neg hz2, e1, forceN_eq]
  rfl
theorem idxI_ok (hV : V.Ok E.P) {x ix : Operand} (hd1 : d + 1 ≤ nt) (hw : wantedR t ops ⟨some d, .indexAddr ty x ix, ty', pos, after, guard⟩ = some true)
    (hs : stepI (cIdx V ty (pathOf d) x ix ops ⟨some d, .indexAddr ty x ix, ty', pos, after, guard⟩) E t h nx ds kn kx = some r) : genK ops ⟨some d, .indexAddr ty x ix, ty', pos, after, guard⟩ E t h nx ds kn kx = some r := by
  unfold cIdx at hs
  split at hs
  case h_2 => exact hs
  rename_i e hu
  split at hs
  case h_2 => exact hs
  rename_i i hi
  rw [forceN_eq] at hs
  have hs' : getO (cOd x) t (fun a => getO (cOd ix) t fun b => idxK a b i.size (toK (pathOf d) t h nx ds kn) (genK ops ⟨some d, .indexAddr ty x ix, ty', pos, after, guard⟩ E t h nx ds kn kx)) = some r := hs
  rw [getO_eq, getO_eq] at hs'
  rcases slK_some hs' with e | ⟨G, m, off, len, sz, e1, hk⟩
  · exact e
  rcases natK_some hk with e | ⟨d1, n, e2, hk2⟩
  · exact e
  rcases ifK_some hk2 with e | ⟨h1, hk3⟩
  · exact e
  rw [forceNK_eq] at hk3
  refine gen_pure hw rfl hd1 hn rfl rfl ?_ hk3
  show indexR E.P ty (evalR t x) (evalR t ix) = _
  unfold indexR
  rw [hV.under hu]
  have hlt : n < len := Nat.le_of_ble_eq_true h1
  simp only [hV.info _ _ hi, e1, e2, if_pos hlt, forceN_eq]
  rfl
theorem ldI_ok (hV : V.Ok E.P) {x : Operand} (hd1 : d + 1 ≤ nt) (hw : wantedR t ops ⟨some d, .load ty x, ty', pos, after, guard⟩ = some true)
    (hs : stepI (cLd V ty (pathOf d) x ops ⟨some d, .load ty x, ty', pos, after, guard⟩) E t h nx ds kn kx = some r) : genK ops ⟨some d, .load ty x, ty', pos, after, guard⟩ E t h nx ds kn kx = some r := by
  unfold cLd at hs
  split at hs
  case h_2 => exact hs
  rename_i d' hu
  split at hs
  case h_2 => exact hs
  rename_i i hi
  split at hs
  · rename_i hrow
    rw [forceN_eq] at hs
    have hs' : getO (cOd x) t (fun a => ldnK h a i.size (toK (pathOf d) t h nx ds kn) (genK ops ⟨some d, .load ty x, ty', pos, after, guard⟩ E t h nx ds kn kx)) = some r := hs
    rw [getO_eq] at hs'
    rcases ptrK_some hs' with e | ⟨G, m, off, e1, hk⟩
    · exact e
    rcases cellsK_some hk with e | ⟨el, z, nxe, cs, hc, hk2⟩
    · exact e
    rw [dropK_eq, takeK_eq] at hk2
    split at hk2
    · rename_i hlen
      refine gen_read hw rfl hd1 hn rfl rfl ?_ hk2
      show loadR E.P h ty (evalR t x) = _
      unfold loadR
      rw [e1]
      simp only [hc, hV.under hu, hV.info _ _ hi, hrow, if_true, takeO_go, dropR_eq, if_pos hlen]
    · exact hk2
  · rename_i hrow
    have hs' : getO (cOd x) t (fun a => ld1K h a (toK (pathOf d) t h nx ds kn) (genK ops ⟨some d, .load ty x, ty', pos, after, guard⟩ E t h nx ds kn kx)) = some r := hs
    rw [getO_eq] at hs'
    rcases ptrK_some hs' with e | ⟨G, m, off, e1, hk⟩
    · exact e
    rcases cellsK_some hk with e | ⟨el, z, nxe, cs, hc, hk2⟩
    · exact e
    rw [nthK_eq] at hk2
    split at hk2
    · rename_i v hv
      refine gen_read hw rfl hd1 hn rfl rfl ?_ hk2
      show loadR E.P h ty (evalR t x) = _
      unfold loadR
      rw [e1]
      simp only [hc, hV.under hu, hV.info _ _ hi, hrow, nthR_eq, hv]
      rfl
    · exact hk2
theorem stI_ok (hV : V.Ok E.P) {x v : Operand} (hd1 : dstOk nt dst = true) (hw : wantedR t ops ⟨dst, .store ty x v, ty', pos, after, guard⟩ = some true)
    (hs : stepI (cSt V ty (cDst dst) x v ops ⟨dst, .store ty x v, ty', pos, after, guard⟩) E t h nx ds kn kx = some r) : genK ops ⟨dst, .store ty x v, ty', pos, after, guard⟩ E t h nx ds kn kx = some r := by
  unfold cSt at hs
  split at hs
  case h_2 => exact hs
  rename_i i hi
  rw [forceN_eq] at hs
  split at hs
  · rename_i h1
    have hs' : getO (cOd x) t (fun a => getO (cOd v) t fun b => st1K h a b (fun h' => setD (cDst dst) undR t fun t' => kn t' h' nx ds) (genK ops ⟨dst, .store ty x v, ty', pos, after, guard⟩ E t h nx ds kn kx)) = some r := hs
    rw [getO_eq, getO_eq] at hs'
    rcases ptrK_some hs' with e | ⟨G, m, off, e1, hk⟩
    · exact e
    rcases oneK_some hk with e | ⟨c1, c2, hk2⟩
    · exact e
    rcases cellsK_some hk2 with e | ⟨el, z, nxe, cs, hc, hk3⟩
    · exact e
    rw [over1K_eq] at hk3
    split at hk3
    · rename_i hlt
      rw [setF_eq] at hk3
      refine gen_store hw hV rfl ?_ hd1 hn hk3
      unfold storeR
      rw [e1]
      have c3 : ([evalR t v].length = i.size ∧ [evalR t v].all oneR = true) := ⟨by rw [h1]; rfl, by simp [c2]⟩
      simp only [hc, c1, hV.info _ _ hi, if_pos c3, overO_go, putT_eq]
      have c4 : off + [evalR t v].length ≤ cs.length := by simp; omega
      rw [if_pos c4]
      have c5 : cs.take off ++ [evalR t v] ++ cs.drop (off + [evalR t v].length) = cs.set off (evalR t v) := by
        rw [List.set_eq_take_append_cons_drop, if_pos hlt]
        simp
      rw [c5]
    · exact hk3
  · rename_i n h1
    have hs' : getO (cOd x) t (fun a => getO (cOd v) t fun b => stnK h a b i.size (fun h' => setD (cDst dst) undR t fun t' => kn t' h' nx ds) (genK ops ⟨dst, .store ty x v, ty', pos, after, guard⟩ E t h nx ds kn kx)) = some r := hs
    rw [getO_eq, getO_eq] at hs'
    rcases ptrK_some hs' with e | ⟨G, m, off, e1, hk⟩
    · exact e
    rcases aggK_some hk with e | ⟨l, e2, hk2⟩
    · exact e
    rw [lenEqK_eq] at hk2
    split at hk2
    case isFalse => exact hk2
    rename_i hl
    rcases allOneK_some hk2 with e | ⟨c2, hk3⟩
    · exact e
    rcases cellsK_some hk3 with e | ⟨el, z, nxe, cs, hc, hk4⟩
    · exact e
    rw [overLK_eq] at hk4
    split at hk4
    · rename_i hlt
      rw [setF_eq] at hk4
      refine gen_store hw hV rfl ?_ hd1 hn hk4
      unfold storeR
      rw [e1, e2]
      have c1 : cellsR (.agg l) = some l := rfl
      simp only [hc, c1, hV.info _ _ hi, if_pos (show l.length = i.size ∧ l.all oneR = true from ⟨hl, c2⟩), overO_go, putT_eq, if_pos hlt]
    · exact hk4
theorem lenI_ok (hV : V.Ok E.P) {args : Array Operand} {tys : Array TypeId} (hd1 : d + 1 ≤ nt) (hw : wantedR t ops ⟨some d, .call ⟨.builtin .len, args, tys⟩, ty', pos, after, guard⟩ = some true)
    (hs : stepI (cLen V (pathOf d) args.toList tys.toList ops ⟨some d, .call ⟨.builtin .len, args, tys⟩, ty', pos, after, guard⟩) E t h nx ds kn kx = some r) : genK ops ⟨some d, .call ⟨.builtin .len, args, tys⟩, ty', pos, after, guard⟩ E t h nx ds kn kx = some r := by
  unfold cLen at hs
  split at hs
  case h_2 => exact hs
  rename_i x ty ea et
  split at hs
  · rename_i hu
    have hs' : getO (cOd x) t (fun a => lensK a (toK (pathOf d) t h nx ds kn) (genK ops ⟨some d, .call ⟨.builtin .len, args, tys⟩, ty', pos, after, guard⟩ E t h nx ds kn kx)) = some r := hs
    rw [getO_eq] at hs'
    rcases strK_some hs' with e | ⟨l, e1, hk⟩
    · exact e
    rw [forceNK_eq, lenKN_eq] at hk
    refine gen_pure hw rfl hd1 hn ?_ rfl ?_ hk
    · unfold clsR
      simp only [et, hV.under hu]
    · unfold pureR
      simp only [ea, et]
      unfold lenR
      rw [hV.under hu, e1]
      simp only [forceN_eq]
  · rename_i e hu
    have hs' : getO (cOd x) t (fun a => lenK a (toK (pathOf d) t h nx ds kn) (genK ops ⟨some d, .call ⟨.builtin .len, args, tys⟩, ty', pos, after, guard⟩ E t h nx ds kn kx)) = some r := hs
    rw [getO_eq] at hs'
    rcases slK_some hs' with e | ⟨G, m, off, len, sz, e1, hk⟩
    · exact e
    refine gen_pure hw rfl hd1 hn ?_ rfl ?_ hk
    · unfold clsR
      simp only [et, hV.under hu]
    · unfold pureR
      simp only [ea, et]
      unfold lenR
      rw [hV.under hu, e1]
  · exact hs
theorem sidxI_ok (hV : V.Ok E.P) {x ix : Operand} (hd1 : d + 1 ≤ nt) (hw : wantedR t ops ⟨some d, .index ty x ix, ty', pos, after, guard⟩ = some true)
    (hs : stepI (match V.under ty with
      | some .string => .sidx (pathOf d) (cOd x) (cOd ix) ops ⟨some d, .index ty x ix, ty', pos, after, guard⟩
      | _ => .gen ops ⟨some d, .index ty x ix, ty', pos, after, guard⟩) E t h nx ds kn kx = some r) : genK ops ⟨some d, .index ty x ix, ty', pos, after, guard⟩ E t h nx ds kn kx = some r := by
  split at hs
  case h_2 => exact hs
  rename_i hu
  have hs' : getO (cOd x) t (fun a => getO (cOd ix) t fun b => sidxK a b (toK (pathOf d) t h nx ds kn) (genK ops ⟨some d, .index ty x ix, ty', pos, after, guard⟩ E t h nx ds kn kx)) = some r := hs
  rw [getO_eq, getO_eq] at hs'
  rcases strK_some hs' with e | ⟨l, e1, hk⟩
  · exact e
  rcases natK_some hk with e | ⟨d1, n, e2, hk2⟩
  · exact e
  rw [nthK_eq] at hk2
  split at hk2
  · rename_i b hb
    rw [forceNK_eq] at hk2
    refine gen_pure hw rfl hd1 hn rfl rfl ?_ hk2
    show idxR E.P ty (evalR t x) (evalR t ix) = _
    unfold idxR
    rw [hV.under hu, e1, e2]
    simp only [nthN_eq, hb]
  · exact hk2
theorem boxI_ok {x : Operand} (hd1 : d + 1 ≤ nt) (hw : wantedR t ops ⟨some d, .box ty x, ty', pos, after, guard⟩ = some true)
    (hs : stepI (.box (pathOf d) ty (cOd x) ops ⟨some d, .box ty x, ty', pos, after, guard⟩) E t h nx ds kn kx = some r) : genK ops ⟨some d, .box ty x, ty', pos, after, guard⟩ E t h nx ds kn kx = some r := by
  have hs' : getO (cOd x) t (fun a => boxK ty a h nx (fun h' nx' => setP (.ptr nx 0 0) (pathOf d) t fun t' => kn t' h' nx' ds) (genK ops ⟨some d, .box ty x, ty', pos, after, guard⟩ E t h nx ds kn kx)) = some r := hs
  rw [getO_eq] at hs'
  rcases oneK_some hs' with e | ⟨c1, c2, hk⟩
  · rcases aggK_some e with e | ⟨l, e1, hk⟩
    · exact e
    refine gen_alloc hw rfl hd1 hn rfl rfl ?_ hk
    show (match cellsR (evalR t x) with | some l => some (RV.ptr nx 0 0, OB.cells ty false 1 [(0, l)]) | none => none) = _
    rw [e1]
    rfl
  · refine gen_alloc hw rfl hd1 hn rfl rfl ?_ hk
    show (match cellsR (evalR t x) with | some l => some (RV.ptr nx 0 0, OB.cells ty false 1 [(0, l)]) | none => none) = _
    rw [c1]
theorem allocI_ok (hV : V.Ok E.P) (hd1 : d + 1 ≤ nt) (hw : wantedR t ops ⟨some d, .alloc ty, ty', pos, after, guard⟩ = some true)
    (hs : stepI (cAlloc V (pathOf d) ty ops ⟨some d, .alloc ty, ty', pos, after, guard⟩) E t h nx ds kn kx = some r) : genK ops ⟨some d, .alloc ty, ty', pos, after, guard⟩ E t h nx ds kn kx = some r := by
  unfold cAlloc at hs
  split at hs
  case h_2 => exact hs
  rename_i i hi
  split at hs
  case h_2 => exact hs
  rename_i z hz
  rw [forceRs_lit] at hs
  have hs' : newK (.cells ty false 1 [(0, z.cells.toList.map ofV)]) h nx (fun h' nx' => setP (.ptr nx 0 0) (pathOf d) t fun t' => kn t' h' nx' ds) = some r := hs
  refine gen_alloc hw rfl hd1 hn rfl rfl ?_ hs'
  show (match zerosR E.P ty with | some l => some (RV.ptr nx 0 0, OB.cells ty false 1 [(0, l)]) | none => none) = _
  unfold zerosR
  rw [hV.info _ _ hi]
  simp only [hz]
theorem bslI_ok (hV : V.Ok E.P) {len : Nat} {parts : Array (Nat × Operand)} (hd1 : d + 1 ≤ nt) (hw : wantedR t ops ⟨some d, .buildSlice ty len parts, ty', pos, after, guard⟩ = some true)
    (hs : stepI (cBsl V (pathOf d) ty len parts.toList ops ⟨some d, .buildSlice ty len parts, ty', pos, after, guard⟩) E t h nx ds kn kx = some r) : genK ops ⟨some d, .buildSlice ty len parts, ty', pos, after, guard⟩ E t h nx ds kn kx = some r := by
  unfold cBsl at hs
  split at hs
  case h_2 => exact hs
  rename_i e hu
  split at hs
  case h_2 => exact hs
  rename_i i hi
  split at hs
  case h_2 => exact hs
  rename_i z hz
  cases hb : Nat.beq i.size 1 && denseP 0 parts.toList && Nat.beq parts.toList.length len && Nat.ble 1 len && Nat.ble len 10000 with
  | false => rw [hb] at hs; exact hs
  | true =>
  rw [hb, cond_true, forceN_eq] at hs
  simp only [Bool.and_eq_true] at hb
  obtain ⟨⟨⟨⟨b1, b2⟩, b3⟩, b4⟩, b5⟩ := hb
  have b1 := Nat.eq_of_beq_eq_true b1
  have b3 := Nat.eq_of_beq_eq_true b3
  have b4 := Nat.le_of_ble_eq_true b4
  have hs' : getL1 (cOds (parts.toList.map (·.2))) t (fun cs => newK (.cells e false 1 [(0, cs)]) h nx fun h' nx' => setP (.sl nx 0 0 len 1) (pathOf d) t fun t' => kn t' h' nx' ds) (genK ops ⟨some d, .buildSlice ty len parts, ty', pos, after, guard⟩ E t h nx ds kn kx) = some r := hs
  rcases getL1_some hs' with e1 | ⟨c1, hk⟩
  · exact e1
  refine gen_alloc hw rfl hd1 hn rfl rfl ?_ hk
  have hz2 : zeroCs E.P e len = some ((rowZeros z.cells (len * i.size)).toList.map ofV) := by
    unfold zeroCs
    rw [hV.info _ _ hi]
    simp only [hz]
    have : Nat.ble (len * i.size) 10000 = true := by rw [b1, Nat.mul_one]; exact b5
    rw [this]
    rfl
  show (match E.P.underlying ty with
    | some (.slice e) => match E.P.info? e, zeroCs E.P e len with
      | some i, some z => fillR (fun k => some (k * i.size, i.size)) (parts.toList.map fun p : Nat × Operand => (p.1, evalR t p.2)) z fun cs => bif Nat.beq (len * i.size) 0 then (bif Nat.beq len 0 then some (RV.s0 nx 0 0, OB.cells e false 1 [(0, cs)]) else none) else some (RV.sl nx 0 0 len i.size, OB.cells e false 1 [(0, cs)])
      | _, _ => none
    | _ => none) = _
  simp only [hV.under hu, hV.info _ _ hi, hz2, b1]
  have hlen : ((rowZeros z.cells (len * 1)).toList.map ofV).length = parts.toList.length := by
    simp [rowZeros, b3]
  have := fill_dense parts.toList [] ((rowZeros z.cells (len * 1)).toList.map ofV) (fun cs => bif Nat.beq (len * 1) 0 then (bif Nat.beq len 0 then some (RV.s0 nx 0 0, OB.cells e false 1 [(0, cs)]) else none) else some (RV.sl nx 0 0 len 1, OB.cells e false 1 [(0, cs)])) 0 b2 rfl hlen c1
  rw [List.nil_append] at this
  rw [this]
  have hz3 : Nat.beq (len * 1) 0 = false := by
    cases len with
    | zero => omega
    | succ m => rw [Nat.mul_one]; rfl
  rw [hz3, cond_false, List.map_map]
  rfl
theorem cJ_ok {cr : CallR} (hl : Le E.callR0 cr) (hck : CK E.callK cr) (hV : V.Ok E.P) (hd1 : d + 1 ≤ nt) (hw : wantedR t ops ⟨some d, op, ty', pos, after, guard⟩ = some true)
    (hs : stepI (cJ V (pathOf d) op ops ⟨some d, op, ty', pos, after, guard⟩) E t h nx ds kn kx = some r) : genK ops ⟨some d, op, ty', pos, after, guard⟩ (E.up cr) t h nx ds kn kx = some r := by
  unfold cJ at hs
  split at hs
  · rename_i x
    have hs' : getO (cOd x) t (fun q => setP q (pathOf d) t fun t' => kn t' h nx ds) = some r := hs
    rw [getO_eq] at hs'
    exact gen_up hl (gen_pure hw rfl hd1 hn rfl rfl rfl hs')
  · rename_i x
    have hs' : getO (cOd x) t (fun q => setP q (pathOf d) t fun t' => kn t' h nx ds) = some r := hs
    rw [getO_eq] at hs'
    exact gen_up hl (gen_pure hw rfl hd1 hn rfl rfl rfl hs')
  · rename_i c a b
    have hs' : getO (cOd c) t (fun v => boolK v (fun q => Bool.rec (getO (cOd b) t (toK (pathOf d) t h nx ds kn)) (getO (cOd a) t (toK (pathOf d) t h nx ds kn)) q) (genK ops ⟨some d, .pick c a b, ty', pos, after, guard⟩ E t h nx ds kn kx)) = some r := hs
    rw [getO_eq] at hs'
    rcases boolK_some hs' with e | ⟨q, e1, hk⟩
    · exact gen_up hl (e)
    cases q with
    | true =>
      have hk' : getO (cOd a) t (toK (pathOf d) t h nx ds kn) = some r := hk
      rw [getO_eq] at hk'
      refine gen_up hl (gen_pure hw rfl hd1 hn rfl rfl ?_ hk')
      unfold pureR
      simp only [e1]
    | false =>
      have hk' : getO (cOd b) t (toK (pathOf d) t h nx ds kn) = some r := hk
      rw [getO_eq] at hk'
      refine gen_up hl (gen_pure hw rfl hd1 hn rfl rfl ?_ hk')
      unfold pureR
      simp only [e1]
  · exact gen_up hl (binI_ok hn hd1 hw hs)
  · rename_i q x
    have hs' : getO (cOd x) t (fun a => notK a (toK (pathOf d) t h nx ds kn) (genK ops ⟨some d, .unOp .not q x, ty', pos, after, guard⟩ E t h nx ds kn kx)) = some r := hs
    rw [getO_eq] at hs'
    rcases boolK_some hs' with e | ⟨b, e1, hk⟩
    · exact gen_up hl (e)
    cases b with
    | true =>
      refine gen_up hl (gen_pure hw rfl hd1 hn rfl rfl ?_ hk)
      unfold pureR
      simp only [e1]
      rfl
    | false =>
      refine gen_up hl (gen_pure hw rfl hd1 hn rfl rfl ?_ hk)
      unfold pureR
      simp only [e1]
      rfl
  · exact gen_up hl (fldI_ok hn hV hd1 hw hs)
  · exact gen_up hl (idxI_ok hn hV hd1 hw hs)
  · exact gen_up hl (ldI_ok hn hV hd1 hw hs)
  · exact gen_up hl (stI_ok hn hV (dstOk_some hd1) hw hs)
  · rename_i x i
    have hs' : getO (cOd x) t (fun a => extK a i (toK (pathOf d) t h nx ds kn) (genK ops ⟨some d, .extract x i, ty', pos, after, guard⟩ E t h nx ds kn kx)) = some r := hs
    rw [getO_eq] at hs'
    rcases tupK_some hs' with e | ⟨l, e1, hk⟩
    · exact gen_up hl (e)
    rw [nthK_eq] at hk
    split at hk
    · rename_i v hv
      refine gen_up hl (gen_pure hw rfl hd1 hn rfl rfl ?_ hk)
      show extractR (evalR t x) i = _
      rw [e1]
      unfold extractR
      simp only [nthR_eq, hv]
    · exact gen_up hl (hk)
  · rename_i x
    have hs' : getO (cOd x) t (fun a => nilcK a (toK (pathOf d) t h nx ds kn) (genK ops ⟨some d, .nilCheck x, ty', pos, after, guard⟩ E t h nx ds kn kx)) = some r := hs
    rw [getO_eq] at hs'
    rcases ptrK_some hs' with e | ⟨G, m, off, e1, hk⟩
    · exact gen_up hl (e)
    refine gen_up hl (gen_pure hw rfl hd1 hn rfl rfl ?_ hk)
    show nilCheckR (evalR t x) = _
    rw [e1]
    rfl
  · exact gen_up hl (boxI_ok hn hd1 hw hs)
  · exact gen_up hl (allocI_ok hn hV hd1 hw hs)
  · exact gen_up hl (bslI_ok hn hV hd1 hw hs)
  · exact gen_up hl (sidxI_ok hn hV hd1 hw hs)
  · rename_i f args tys
    cases hb : bodyOf V f with
    | false => rw [hb] at hs; exact gen_up hl (hs)
    | true =>
      rw [hb, cond_true] at hs
      exact gen_call (E := E.up cr) hw hck hV rfl hb (dstOk_some hd1) hn hs
  · exact gen_up hl (lenI_ok hn hV hd1 hw hs)
  · exact gen_up hl (hs)
theorem cJd_ok {cr : CallR} (hl : Le E.callR0 cr) (hck : CK E.callK cr) (hV : V.Ok E.P) {o : Oper} (hw : wantedR t ops o = some true) (hs : stepI (cJd V nt ops o) E t h nx ds kn kx = some r) : genK ops o (E.up cr) t h nx ds kn kx = some r := by
  obtain ⟨dst, op, ty', pos, after, guard⟩ := o
  unfold cJd at hs
  cases dst with
  | none =>
    have hs' : stepI (cJ0 V op ops ⟨none, op, ty', pos, after, guard⟩) E t h nx ds kn kx = some r := hs
    unfold cJ0 at hs'
    split at hs'
    · exact gen_up hl (stI_ok hn hV rfl hw hs')
    · rename_i f args tys
      cases hb : bodyOf V f with
      | false => rw [hb] at hs'; exact gen_up hl (hs')
      | true =>
        rw [hb, cond_true] at hs'
        exact gen_call (E := E.up cr) hw hck hV rfl hb rfl hn hs'
    · exact gen_up hl (hs')
  | some d =>
    have hs' : stepI (bif Nat.ble (d + 1) nt then cJ V (pathOf d) op ops ⟨some d, op, ty', pos, after, guard⟩ else .gen ops ⟨some d, op, ty', pos, after, guard⟩) E t h nx ds kn kx = some r := hs
    cases hb : Nat.ble (d + 1) nt with
    | false => rw [hb] at hs'; exact gen_up hl (hs')
    | true =>
      rw [hb, cond_true] at hs'
      exact cJ_ok hn hl hck hV (Nat.le_of_ble_eq_true hb) hw hs'
theorem cI_ok {cr : CallR} (hl : Le E.callR0 cr) (hck : CK E.callK cr) (hV : V.Ok E.P) {o : Oper} (hs : stepI (cI V nt ops o) E t h nx ds kn kx = some r) : genK ops o (E.up cr) t h nx ds kn kx = some r := by
  unfold cI cGd at hs
  split at hs
  · rename_i hg
    refine cJd_ok hn hl hck hV ?_ hs
    unfold wantedR
    rw [hg]
  · rename_i j want hg
    split at hs
    case h_2 => exact gen_up hl hs
    rename_i dd hj
    cases hdo : dstOk nt o.dst with
    | false => rw [hdo] at hs; exact gen_up hl hs
    | true =>
    rw [hdo, cond_true] at hs
    have hs' : wantK (pathOf dd) want t (stepI (cJd V nt ops o) E t h nx ds kn kx) (setD (cDst o.dst) undR t fun t' => kn t' h nx ds) (genK ops o E t h nx ds kn kx) = some r := hs
    unfold wantK at hs'
    rw [getP_eq] at hs'
    rcases boolK_some hs' with e | ⟨b, e1, hk⟩
    · exact gen_up hl (e)
    have hget : t.get dd = some (.lit (.bool b)) := by
      cases hg2 : t.get dd with
      | none =>
        rw [hg2] at e1
        have : (undR : RV) = .lit (.bool b) := e1
        injection this with this
        cases this
      | some v =>
        rw [hg2] at e1
        rw [show v = .lit (.bool b) from e1]
    have hwr : wantedR t ops o = some (b == want) := by
      unfold wantedR
      rw [hg]
      simp only [hj, hget]
      cases b <;> cases want <;> rfl
    have skip : b ≠ want → (setD (cDst o.dst) undR t fun t' => kn t' h nx ds) = some r → genK ops o E t h nx ds kn kx = some r := fun hne hk => by
      have hwf : wantedR t ops o = some false := by
        rw [hwr]
        cases b <;> cases want <;> first | rfl | exact absurd rfl hne
      rw [setD_eq o.dst undR t E.n nt _ hdo hn, putR_bind] at hk
      rw [genK_eq]
      have e : runOps E.P E.callR0 ops [o] ⟨t, E.n, h, nx, ds⟩ = match (putR t E.n o.dst undR some) with | some t' => some (.normal, ⟨t', E.n, h, nx, ds⟩) | none => none := by
        unfold runOps
        simp only [hwf]
        rw [putR_bind]
        rfl
      rw [e]
      cases hq : putR t E.n o.dst undR some with
      | none => rw [hq] at hk; cases hk
      | some t' => rw [hq] at hk; exact hk
    cases b with
    | true =>
      cases want with
      | true => exact cJd_ok hn hl hck hV (by rw [hwr]; rfl) hk
      | false => exact gen_up hl (skip (by simp) hk)
    | false =>
      cases want with
      | false => exact cJd_ok hn hl hck hV (by rw [hwr]; rfl) hk
      | true => exact gen_up hl (skip (by simp) hk)
end
end
end Go.Proofs.YtlimlmjljjmcpaaGreatDoor.Ax

/-
  The lean reckoning of drawn regions says no more than the elder one.
-/
set_option linter.unusedVariables false
set_option linter.unusedSimpArgs false
namespace Go.Proofs.YtlimlmjljjmcpaaGreatDoor.Ax
open Go Go.RowKit

theorem coversN_bit {m e j : Nat} (h : coversN m e = true) (hj : e.testBit j = true) : m.testBit j = true := by
  have h1 : m &&& e = e := Nat.eq_of_beq_eq_true h
  have h2 : (m &&& e).testBit j = true := by rw [h1]; exact hj
  rw [Nat.testBit_and, Bool.and_eq_true] at h2
  exact h2.1
theorem bit_or {e k j : Nat} : (e ||| 2 ^ k).testBit j = (e.testBit j || decide (k = j)) := by
  rw [Nat.testBit_or, Nat.testBit_two_pow]
theorem bit_orl {e r j : Nat} (h : e.testBit j = true) : (e ||| r).testBit j = true := by
  rw [Nat.testBit_or, h, Bool.true_or]
theorem bit_orr {e r j : Nat} (h : r.testBit j = true) : (e ||| r).testBit j = true := by
  rw [Nat.testBit_or, h, Bool.or_true]
section
variable {P : Program} {M : Nat → Nat} {S0 : Hp} {nx0 N : Nat}
/-- records in sequence: who changed memory (e), who read it (r), the memory -/
def Sq (P : Program) (M : Nat → Nat) (S0 : Hp) : List Rec → Nat → Nat → Hp → Prop
  | [], e, r, h => e = 0 ∧ r = 0 ∧ h = S0
  | q :: l, e, r, h => match q.kd with
    | .flat => ∃ e' r', (∀ j, e'.testBit j = true → e.testBit j = true) ∧ (∀ j, r'.testBit j = true → r.testBit j = true) ∧ Sq P M S0 l e' r' h
    | .read t o => ∃ r', r = r' ||| 2 ^ l.length ∧ Sq P M S0 l e r' h ∧ coversN (M l.length) e = true ∧ readR P t h o = some q.r ∧ eqRV q.r q.r = true
    | .alloc G ob => ∃ e' h0, e = e' ||| 2 ^ l.length ∧ h = h0.set G ob ∧ Sq P M S0 l e' r h0
    | .eff h' _ => ∃ e' h0, e = e' ||| 2 ^ l.length ∧ coversN (M l.length) (e' ||| r) = true ∧ h = h' ∧ Sq P M S0 l e' r h0
/-- where all new blocks are covered, none is added -/
theorem Sq.hta_none : ∀ {rv : List Rec} {e r : Nat} {h : Hp}, Sq P M S0 rv e r h → ∀ (L : Nat → Bool) (em : Nat) (S : Hp), (∀ j, e.testBit j = true → em.testBit j = true) → htA L em S rv = S
  | [], e, r, h, hs, L, em, S, hc => rfl
  | ⟨d, v, .flat⟩ :: l, e, r, h, hs, L, em, S, hc => by
    obtain ⟨e', r', k1, _, h0⟩ := hs
    exact Sq.hta_none h0 L em S fun j hj => hc j (k1 j hj)
  | ⟨d, v, .read t o⟩ :: l, e, r, h, hs, L, em, S, hc => by
    obtain ⟨r', rfl, h0, _⟩ := hs
    exact Sq.hta_none h0 L em S hc
  | ⟨d, v, .alloc G ob⟩ :: l, e, r, h, hs, L, em, S, hc => by
    obtain ⟨e', h0', rfl, _, h0⟩ := hs
    have hk : em.testBit l.length = true := hc _ (by rw [bit_or]; simp)
    have e1 : htA L em S (⟨d, v, .alloc G ob⟩ :: l) = bif L l.length && !em.testBit l.length then (htA L em S l).set G ob else htA L em S l := rfl
    rw [e1, hk, Bool.not_true, Bool.and_false, cond_false]
    exact Sq.hta_none h0 L em S fun j hj => hc j (by rw [bit_or, hj, Bool.true_or])
  | ⟨d, v, .eff h' n'⟩ :: l, e, r, h, hs, L, em, S, hc => by
    obtain ⟨e', h0', rfl, _, _, h0⟩ := hs
    exact Sq.hta_none h0 L em S fun j hj => hc j (by rw [bit_or, hj, Bool.true_or])
/-- the memory, ags whoever comes behind all of them sees it -/
theorem Sq.view (hM : ∀ j a, j < N → (M j).testBit a = true → a < j) : ∀ {rv : List Rec} {e r : Nat} {h : Hp}, rv.length ≤ N → Sq P M S0 rv e r h → (∀ k, N ≤ k → (stE M S0 nx0 all rv).1.testBit k = false) ∧ (∀ k, rv.length ≤ k → (stE M S0 nx0 all rv).1.testBit k = false) ∧ ∀ L : Nat → Bool, (∀ j, e.testBit j = true → L j = true) → htA L (stE M S0 nx0 all rv).1 (stE M S0 nx0 all rv).2.1 rv = h
  | [], e, r, h, hN, hs => by
    obtain ⟨rfl, rfl, rfl⟩ := hs
    exact ⟨fun k _ => Nat.zero_testBit k, fun k _ => Nat.zero_testBit k, fun L _ => rfl⟩
  | ⟨d, v, .flat⟩ :: l, e, r, h, hN, hs => by
    obtain ⟨e', r', k1, _, h0⟩ := hs
    obtain ⟨h1, h2, h3⟩ := Sq.view hM (rv := l) (Nat.le_of_succ_le hN) h0
    exact ⟨h1, fun k hk => h2 k (Nat.le_of_succ_le hk), fun L hL => h3 L fun j hj => hL j (k1 j hj)⟩
  | ⟨d, v, .read t o⟩ :: l, e, r, h, hN, hs => by
    obtain ⟨r', rfl, h0, _⟩ := hs
    obtain ⟨h1, h2, h3⟩ := Sq.view hM (rv := l) (Nat.le_of_succ_le hN) h0
    exact ⟨h1, fun k hk => h2 k (Nat.le_of_succ_le hk), h3⟩
  | ⟨d, v, .alloc G ob⟩ :: l, e, r, h, hN, hs => by
    obtain ⟨e', h0', rfl, rfl, h0⟩ := hs
    obtain ⟨h1, h2, h3⟩ := Sq.view hM (rv := l) (Nat.le_of_succ_le hN) h0
    refine ⟨h1, fun k hk => h2 k (Nat.le_of_succ_le hk), fun L hL => ?_⟩
    have hk : L l.length = true := hL _ (by rw [bit_or]; simp)
    have hb : (stE M S0 nx0 all l).1.testBit l.length = false := h2 _ (Nat.le_refl _)
    have e0 : stE M S0 nx0 all (⟨d, v, .alloc G ob⟩ :: l) = stE M S0 nx0 all l := rfl
    rw [e0]
    have e1 : htA L (stE M S0 nx0 all l).1 (stE M S0 nx0 all l).2.1 (⟨d, v, .alloc G ob⟩ :: l) = bif L l.length && !(stE M S0 nx0 all l).1.testBit l.length then (htA L (stE M S0 nx0 all l).1 (stE M S0 nx0 all l).2.1 l).set G ob else htA L (stE M S0 nx0 all l).1 (stE M S0 nx0 all l).2.1 l := rfl
    rw [e1, hk, hb, Bool.not_false, Bool.and_true, cond_true, h3 L fun j hj => hL j (by rw [bit_or, hj, Bool.true_or])]
  | ⟨d, v, .eff h' n'⟩ :: l, e, r, h, hN, hs => by
    obtain ⟨e', h0', rfl, hc, rfl, h0⟩ := hs
    have e0 : stE M S0 nx0 all (⟨d, v, .eff h n'⟩ :: l) = (M l.length, h, n') := rfl
    rw [e0]
    have hlt : l.length < N := hN
    refine ⟨fun k hk => ?_, fun k hk => ?_, fun L hL => ?_⟩
    · cases hb : (M l.length).testBit k with
      | false => rfl
      | true => have := hM _ _ hlt hb; omega
    · cases hb : (M l.length).testBit k with
      | false => rfl
      | true => have := hM _ _ hlt hb; simp at hk; omega
    · exact Sq.hta_none h0 L (M l.length) h fun j hj => coversN_bit hc (bit_orl hj)
/-- what comes later and is not waited for adds nothing -/
theorem hta_app {L : Nat → Bool} {em : Nat} {S : Hp} : ∀ {pre l : List Rec}, (∀ k, l.length ≤ k → L k = false) → htA L em S (pre ++ l) = htA L em S l
  | [], l, h => rfl
  | ⟨d, v, .alloc G ob⟩ :: pre, l, h => by
    have hk : L (pre ++ l).length = false := h _ (by simp)
    have e1 : htA L em S ((⟨d, v, .alloc G ob⟩ :: pre) ++ l) = bif L (pre ++ l).length && !em.testBit (pre ++ l).length then (htA L em S (pre ++ l)).set G ob else htA L em S (pre ++ l) := rfl
    rw [e1, hk, Bool.false_and, cond_false]
    exact hta_app h
  | ⟨d, v, .flat⟩ :: pre, l, h => hta_app (pre := pre) h
  | ⟨d, v, .read t o⟩ :: pre, l, h => hta_app (pre := pre) h
  | ⟨d, v, .eff h' n'⟩ :: pre, l, h => hta_app (pre := pre) h
theorem Sq.tail : ∀ {pre l : List Rec} {e r : Nat} {h : Hp}, Sq P M S0 (pre ++ l) e r h → ∃ e' r' h', Sq P M S0 l e' r' h'
  | [], l, e, r, h, hs => ⟨e, r, h, hs⟩
  | ⟨d, v, .flat⟩ :: pre, l, e, r, h, hs => by
    obtain ⟨e', r', _, _, h0⟩ := hs
    exact Sq.tail (pre := pre) h0
  | ⟨d, v, .read t o⟩ :: pre, l, e, r, h, hs => by
    obtain ⟨r', _, h0, _⟩ := hs
    exact Sq.tail h0
  | ⟨d, v, .alloc G ob⟩ :: pre, l, e, r, h, hs => by
    obtain ⟨e', h0', _, _, h0⟩ := hs
    exact Sq.tail h0
  | ⟨d, v, .eff h' n'⟩ :: pre, l, e, r, h, hs => by
    obtain ⟨e', h0', _, _, _, h0⟩ := hs
    exact Sq.tail h0
/-- a reader stands in the mask -/
theorem Sq.read_bit : ∀ {pre l : List Rec} {q : Rec} {t : Tr RV} {o : Oper} {e r : Nat} {h : Hp}, q.kd = .read t o → Sq P M S0 (pre ++ q :: l) e r h → r.testBit l.length = true
  | [], l, ⟨d, v, kd⟩, t, o, e, r, h, hq, hs => by
    cases hq
    obtain ⟨r', rfl, _⟩ := hs
    rw [bit_or]
    simp
  | ⟨d, v, .flat⟩ :: pre, l, q, t, o, e, r, h, hq, hs => by
    obtain ⟨e', r', _, k2, h0⟩ := hs
    exact k2 _ (Sq.read_bit (pre := pre) hq h0)
  | ⟨d, v, .read t' o'⟩ :: pre, l, q, t, o, e, r, h, hq, hs => by
    obtain ⟨r', rfl, h0, _⟩ := hs
    rw [bit_or, Sq.read_bit (pre := pre) hq h0, Bool.true_or]
  | ⟨d, v, .alloc G ob⟩ :: pre, l, q, t, o, e, r, h, hq, hs => by
    obtain ⟨e', h0', _, _, h0⟩ := hs
    exact Sq.read_bit (pre := pre) hq h0
  | ⟨d, v, .eff h' n'⟩ :: pre, l, q, t, o, e, r, h, hq, hs => by
    obtain ⟨e', h0', _, _, _, h0⟩ := hs
    exact Sq.read_bit (pre := pre) hq h0
/-- who changed memory stands in the mask -/
theorem Sq.eff_bit : ∀ {pre l : List Rec} {q : Rec} {h1 : Hp} {n1 : Nat} {e r : Nat} {h : Hp}, q.kd = .eff h1 n1 → Sq P M S0 (pre ++ q :: l) e r h → e.testBit l.length = true
  | [], l, ⟨d, v, kd⟩, h1, n1, e, r, h, hq, hs => by
    cases hq
    obtain ⟨e', _, rfl, _⟩ := hs
    rw [bit_or]
    simp
  | ⟨d, v, .flat⟩ :: pre, l, q, h1, n1, e, r, h, hq, hs => by
    obtain ⟨e', r', k1, _, h0⟩ := hs
    exact k1 _ (Sq.eff_bit (pre := pre) hq h0)
  | ⟨d, v, .read t' o'⟩ :: pre, l, q, h1, n1, e, r, h, hq, hs => by
    obtain ⟨r', rfl, h0, _⟩ := hs
    exact Sq.eff_bit (pre := pre) hq h0
  | ⟨d, v, .alloc G ob⟩ :: pre, l, q, h1, n1, e, r, h, hq, hs => by
    obtain ⟨e', h0', rfl, _, h0⟩ := hs
    rw [bit_or, Sq.eff_bit (pre := pre) hq h0, Bool.true_or]
  | ⟨d, v, .eff h' n'⟩ :: pre, l, q, h1, n1, e, r, h, hq, hs => by
    obtain ⟨e', h0', rfl, _, _, h0⟩ := hs
    rw [bit_or, Sq.eff_bit (pre := pre) hq h0, Bool.true_or]
theorem noneLater_false {m : Nat} {q : Rec} {h1 : Hp} {n1 : Nat} (hq : q.kd = .eff h1 n1) : ∀ {pre l : List Rec} {k : Nat}, m.testBit l.length = true → (∀ j, l.length ≤ j → j < (pre ++ q :: l).length → j ≠ k) → noneLater m (pre ++ q :: l) k = false
  | [], l, k, hb, hk => by
    have hne : Nat.beq l.length k = false := by
      cases hh : Nat.beq l.length k with
      | false => rfl
      | true => exact absurd (Nat.eq_of_beq_eq_true hh) (hk _ (Nat.le_refl _) (by simp))
    show (bif Nat.beq l.length k then true else (match q.kd with | .eff _ _ => !m.testBit l.length | _ => true) && noneLater m l k) = false
    rw [hne, cond_false, hq, hb]
    rfl
  | x :: pre, l, k, hb, hk => by
    have hne : Nat.beq (pre ++ q :: l).length k = false := by
      cases hh : Nat.beq (pre ++ q :: l).length k with
      | false => rfl
      | true => exact absurd (Nat.eq_of_beq_eq_true hh) (hk _ (by simp; omega) (by simp))
    show (bif Nat.beq (pre ++ q :: l).length k then true else (match x.kd with | .eff _ _ => !m.testBit (pre ++ q :: l).length | _ => true) && noneLater m (pre ++ q :: l) k) = false
    rw [hne, cond_false, noneLater_false hq hb fun j h1 h2 => hk j h1 (by simp only [List.cons_append, List.length_cons]; omega), Bool.and_false]
/-- the last who changed memory, if any -/
theorem last_eff : ∀ (l : List Rec), (stE M S0 nx0 all l = (0, S0, nx0) ∧ ∀ q ∈ l, ∀ h n, q.kd ≠ .eff h n) ∨ ∃ p q s h n, l = p ++ q :: s ∧ q.kd = .eff h n ∧ stE M S0 nx0 all l = (M s.length, h, n) ∧ ∀ x ∈ p, ∀ h n, x.kd ≠ .eff h n
  | [] => .inl ⟨rfl, fun q hq => by cases hq⟩
  | ⟨d, v, kd⟩ :: l => by
    have step : (∀ h n, kd ≠ .eff h n) → stE M S0 nx0 all (⟨d, v, kd⟩ :: l) = stE M S0 nx0 all l → (stE M S0 nx0 all (⟨d, v, kd⟩ :: l) = (0, S0, nx0) ∧ ∀ q ∈ (⟨d, v, kd⟩ :: l : List Rec), ∀ h n, q.kd ≠ .eff h n) ∨ ∃ p q s h n, (⟨d, v, kd⟩ :: l : List Rec) = p ++ q :: s ∧ q.kd = .eff h n ∧ stE M S0 nx0 all (⟨d, v, kd⟩ :: l) = (M s.length, h, n) ∧ ∀ x ∈ p, ∀ h n, x.kd ≠ .eff h n := fun hne he => by
      rw [he]
      rcases last_eff l with ⟨h1, h2⟩ | ⟨p, q, s, h, n, h1, h2, h3, h4⟩
      · refine .inl ⟨h1, fun q hq => ?_⟩
        rcases List.mem_cons.1 hq with rfl | hq
        · exact hne
        · exact h2 q hq
      · refine .inr ⟨⟨d, v, kd⟩ :: p, q, s, h, n, by rw [h1]; rfl, h2, h3, fun x hx => ?_⟩
        rcases List.mem_cons.1 hx with rfl | hx
        · exact hne
        · exact h4 x hx
    cases kd with
    | flat => exact step (fun _ _ e => by cases e) rfl
    | read t o => exact step (fun _ _ e => by cases e) rfl
    | alloc G ob => exact step (fun _ _ e => by cases e) rfl
    | eff h n => exact .inr ⟨[], _, l, h, n, rfl, rfl, rfl, fun x hx => by cases hx⟩
/-- a reader in sequence sees the same in every order -/
theorem Sq.readAt_ok (hM : ∀ j a, j < N → (M j).testBit a = true → a < j) {pre l : List Rec} {q : Rec} {t : Tr RV} {o : Oper} (hq : q.kd = .read t o) {e r : Nat} {h : Hp} (hN : (pre ++ q :: l).length ≤ N) (hs : Sq P M S0 (pre ++ q :: l) e r h) : ∀ (s p : List Rec), p ++ s = pre ++ q :: l → readAt P M S0 (pre ++ q :: l) l.length t o q.r s = true := by
  have hi : l.length < N := by simp at hN; omega
  obtain ⟨e1, r1, h1, hs1⟩ := Sq.tail hs
  obtain ⟨d, v, kd⟩ := q
  cases hq
  obtain ⟨r', _, hs2, hcov, hread, hself⟩ := hs1
  obtain ⟨_, _, hview⟩ := Sq.view (nx0 := 0) hM (by omega) hs2
  have hv := hview (fun a => (M l.length).testBit a) fun j hj => coversN_bit hcov hj
  have hsame : ∀ em S, htA (fun a => (M l.length).testBit a) em S l = h1 → sameRead P t o (htA (fun a => (M l.length).testBit a) em S (pre ++ ⟨d, v, .read t o⟩ :: l)) v = true := fun em S hh => by
    have e1 : htA (fun a => (M l.length).testBit a) em S (pre ++ ⟨d, v, .read t o⟩ :: l) = h1 := by
      have e2 : pre ++ ⟨d, v, .read t o⟩ :: l = (pre ++ [⟨d, v, .read t o⟩]) ++ l := by simp
      rw [e2, hta_app fun k hk => by
        cases hb : (M l.length).testBit k with
        | false => rfl
        | true => have := hM _ _ hi hb; omega]
      exact hh
    unfold sameRead
    rw [e1, hread]
    exact hself
  intro s
  induction s with
  | nil =>
    intro p hp
    show (!noneLater (M l.length) _ _ || sameRead P t o _ v) = true
    rw [Bool.or_eq_true]
    rcases last_eff (M := M) (S0 := S0) (nx0 := 0) l with ⟨k1, k2⟩ | ⟨p1, q1, s1, h3, n3, k1, k2, k3, k4⟩
    · right
      rw [k1] at hv
      exact hsame _ _ hv
    · left
      have hb : (M l.length).testBit s1.length = true := coversN_bit hcov (Sq.eff_bit k2 (by rw [k1] at hs2; exact hs2))
      have e2 : pre ++ ⟨d, v, .read t o⟩ :: l = (pre ++ ⟨d, v, .read t o⟩ :: p1) ++ q1 :: s1 := by rw [k1]; simp
      rw [e2, noneLater_false k2 hb fun j _ hj => Nat.ne_of_lt hj]
      rfl
  | cons x s ih =>
    intro p hp
    have ih' := ih (p ++ [x]) (by simpa using hp)
    show ((match x.kd with
      | .eff h _ => (M s.length).testBit l.length || !noneLater (M l.length) _ s.length || sameRead P t o (htA (fun a => (M l.length).testBit a) (M s.length) h _) v
      | _ => true) && readAt P M S0 _ l.length t o v s) = true
    rw [ih', Bool.and_true]
    cases hx : x.kd with
    | flat => rfl
    | read _ _ => rfl
    | alloc _ _ => rfl
    | eff hh nn =>
      simp only
      rw [Bool.or_eq_true, Bool.or_eq_true]
      rcases Nat.lt_trichotomy s.length l.length with hlt | heq | hgt
      · -- before the reader
        obtain ⟨m, hm⟩ : ∃ m, l = m ++ x :: s := by
          have hsuf : (x :: s) <:+ (pre ++ ⟨d, v, .read t o⟩ :: l) := ⟨p, hp⟩
          have hsuf2 : l <:+ (pre ++ ⟨d, v, .read t o⟩ :: l) := ⟨pre ++ [⟨d, v, .read t o⟩], by simp⟩
          obtain ⟨m, hm⟩ := List.suffix_of_suffix_length_le hsuf hsuf2 (by simp; omega)
          exact ⟨m, hm.symm⟩
        rcases last_eff (M := M) (S0 := S0) (nx0 := 0) l with ⟨k1, k2⟩ | ⟨p1, q1, s1, h3, n3, k1, k2, k3, k4⟩
        · exact absurd hx (k2 x (by rw [hm]; simp) hh nn)
        · rcases Nat.lt_trichotomy s.length s1.length with a | a | a
          · left; right
            have hb : (M l.length).testBit s1.length = true := coversN_bit hcov (Sq.eff_bit k2 (by rw [k1] at hs2; exact hs2))
            have e2 : pre ++ ⟨d, v, .read t o⟩ :: l = (pre ++ ⟨d, v, .read t o⟩ :: p1) ++ q1 :: s1 := by rw [k1]; simp
            rw [e2, noneLater_false k2 hb fun j hj _ => by omega]
            rfl
          · right
            have : q1 :: s1 = x :: s := by
              have a1 : (q1 :: s1) <:+ l := ⟨p1, k1.symm⟩
              have a2 : (x :: s) <:+ l := ⟨m, hm.symm⟩
              obtain ⟨w, hw⟩ := List.suffix_of_suffix_length_le a2 a1 (by simp; omega)
              have hl := congrArg List.length hw
              simp at hl
              have : w = [] := List.eq_nil_of_length_eq_zero (by omega)
              subst this
              exact hw.symm
            injection this with a1 a2
            subst a1 a2
            rw [k2] at hx
            injection hx with b1 b2
            rw [k3] at hv
            rw [← b1]
            exact hsame _ _ hv
          · exfalso
            have a1 : (q1 :: s1) <:+ l := ⟨p1, k1.symm⟩
            have a2 : (x :: s) <:+ l := ⟨m, hm.symm⟩
            obtain ⟨w, hw⟩ := List.suffix_of_suffix_length_le a1 a2 (by simp; omega)
            have hl := congrArg List.length hw
            simp at hl
            rcases w with _ | ⟨y, w⟩
            · simp at hl; omega
            · injection hw with b1 b2
              -- x stands in p1
              have : x ∈ p1 := by
                have hmem : p1 ++ q1 :: s1 = m ++ x :: (w ++ q1 :: s1) := by
                  rw [← k1, hm, ← b2]
                  rfl
                have hlen := congrArg List.length hmem
                have : p1 = m ++ x :: w := by
                  apply List.append_cancel_right (bs := q1 :: s1)
                  rw [hmem]
                  simp
                rw [this]
                simp
              exact k4 x this hh nn hx
      · -- at the reader itself
        exfalso
        have a1 : (x :: s) <:+ (pre ++ ⟨d, v, .read t o⟩ :: l) := ⟨p, hp⟩
        have a2 : (⟨d, v, .read t o⟩ :: l : List Rec) <:+ (pre ++ ⟨d, v, .read t o⟩ :: l) := ⟨pre, rfl⟩
        obtain ⟨w, hw⟩ := List.suffix_of_suffix_length_le a1 a2 (by simp; omega)
        have hl := congrArg List.length hw
        simp at hl
        have : w = [] := List.eq_nil_of_length_eq_zero (by omega)
        subst this
        injection hw with b1 b2
        rw [b1] at hx
        cases hx
      · -- behind the reader
        left; left
        obtain ⟨e4, r4, h4, hs4⟩ := Sq.tail (pre := p) (l := x :: s) (by rw [hp]; exact hs)
        obtain ⟨d2, v2, kd2⟩ := x
        cases hx
        obtain ⟨e5, h5, _, hc5, _, hs5⟩ := hs4
        obtain ⟨w, hw⟩ : ∃ w, s = w ++ ⟨d, v, .read t o⟩ :: l := by
          have a1 : s <:+ (pre ++ ⟨d, v, .read t o⟩ :: l) := ⟨p ++ [⟨d2, v2, .eff hh nn⟩], by simpa using hp⟩
          have a2 : (⟨d, v, .read t o⟩ :: l : List Rec) <:+ (pre ++ ⟨d, v, .read t o⟩ :: l) := ⟨pre, rfl⟩
          obtain ⟨w, hw⟩ := List.suffix_of_suffix_length_le a2 a1 (by simp; omega)
          exact ⟨w, hw.symm⟩
        subst hw
        exact coversN_bit hc5 (bit_orr (Sq.read_bit (q := ⟨d, v, .read t o⟩) rfl hs5))
theorem Sq.reads (hM : ∀ j a, j < N → (M j).testBit a = true → a < j) {rv : List Rec} {e r : Nat} {h : Hp} (hN : rv.length ≤ N) (hs : Sq P M S0 rv e r h) : ∀ (l pre : List Rec), pre ++ l = rv → readsOk P M S0 rv l = true
  | [], pre, hp => rfl
  | q :: l, pre, hp => by
    have ih := Sq.reads hM hN hs l (pre ++ [q]) (by simpa using hp)
    show ((match q.kd with
      | .read t o => readAt P M S0 rv l.length t o q.r rv
      | _ => true) && readsOk P M S0 rv l) = true
    rw [ih, Bool.and_true]
    cases hq : q.kd with
    | read t o =>
      subst hp
      exact Sq.readAt_ok hM hq hN hs _ [] rfl
    | flat => rfl
    | alloc _ _ => rfl
    | eff _ _ => rfl
end
theorem selfK_some {β : Type} {v : RV} {k : Option β} {r : β} (h : selfK v k none = some r) : eqRV v v = true ∧ k = some r := by
  unfold selfK at h
  split at h
  · exact ⟨by simp [eqRV, Nat.beq_refl], h⟩
  · exact ⟨by simp [eqRV, Nat.beq_refl], h⟩
  · rename_i l
    exact ⟨by
      unfold eqRV
      exact eqLN_iff.2 rfl, h⟩
  · rename_i b
    exact ⟨by simp [eqRV, eqV], h⟩
  · rename_i d n
    exact ⟨by simp [eqRV, eqV, Nat.beq_refl], h⟩
  · rcases ifK_some h with e | ⟨h1, h2⟩
    · cases e
    · exact ⟨h1, h2⟩
section
variable {P : Program} {cr : CallR} {ops : Array Oper} {t : Tr RV} {n : Nat} {h : Hp} {nx : Nat} {ds : Option (List DC)} {kn : KN} {r : Ans}
theorem step1 {o : Oper} (hd : isDefer o.op = false) (hh : outK kn noX (runOps P cr ops [o] ⟨t, n, h, nx, ds⟩) = some r) :
    (wantedR t ops o = some false ∧ ∃ t', putR t n o.dst undR some = some t' ∧ kn t' h nx ds = some r) ∨ (wantedR t ops o = some true ∧ ∃ q h' nx' t', opR P cr t h nx o = some (.ret q, h', nx') ∧ putR t n o.dst q some = some t' ∧ kn t' h' nx' ds = some r) := by
  rw [runOps] at hh
  have fin : ∀ {q : RV} {h1 : Hp} {n1 : Nat}, outK kn noX (putR t n o.dst q fun t' => runOps P cr ops [] ⟨t', n, h1, n1, ds⟩) = some r → ∃ t', putR t n o.dst q some = some t' ∧ kn t' h1 n1 ds = some r := fun {q h1 n1} hk => by
    rw [putR_bind2] at hk
    cases hq : putR t n o.dst q some with
    | none => rw [hq] at hk; cases hk
    | some t' => rw [hq] at hk; exact ⟨t', rfl, hk⟩
  cases hw : wantedR t ops o with
  | none => rw [hw] at hh; cases hh
  | some b =>
    rw [hw] at hh
    cases b with
    | false => exact .inl ⟨rfl, fin hh⟩
    | true =>
      right
      refine ⟨rfl, ?_⟩
      simp only at hh
      cases hp : panicR t o with
      | some v => rw [hp] at hh; cases hh
      | none =>
        rw [hp] at hh
        simp only at hh
        cases ho : opR P cr t h nx o with
        | none =>
          rw [ho] at hh
          have hdn : deferR t o = none := by
            obtain ⟨dst, op, ty, pos, after, guard⟩ := o
            cases op with
            | defer c => cases hd
            | _ => rfl
          simp only [hdn] at hh
          cases hh
        | some p =>
          obtain ⟨re, h', nx'⟩ := p
          rw [ho] at hh
          cases re with
          | pan v => cases hh
          | ret q =>
            obtain ⟨t', h1, h2⟩ := fin hh
            exact ⟨q, h', nx', t', rfl, h1, h2⟩
end
section
variable {E : Env} {V : PV} {nt : Nat} {cr : CallR} {ops : Array Oper} {mk : Tr Nat} {S0 : Hp} {base : Nat} {ds : Option (List DC)} {kn : KN} {r0 : Ans}
theorem lastEff_bit {P : Program} {M : Nat → Nat} : ∀ {rv : List Rec} {e r : Nat} {h : Hp}, Sq P M S0 rv e r h → ∀ j, lastEff rv = some j → e.testBit j = true
  | [], e, r, h, hs, j, hj => by cases hj
  | ⟨d, v, .flat⟩ :: l, e, r, h, hs, j, hj => by
    obtain ⟨e', r', k1, _, h0⟩ := hs
    exact k1 _ (lastEff_bit h0 j hj)
  | ⟨d, v, .read t o⟩ :: l, e, r, h, hs, j, hj => by
    obtain ⟨r', _, h0, _⟩ := hs
    exact lastEff_bit h0 j hj
  | ⟨d, v, .alloc G ob⟩ :: l, e, r, h, hs, j, hj => by
    obtain ⟨e', h0', rfl, _, h0⟩ := hs
    rw [bit_or, lastEff_bit h0 j hj, Bool.true_or]
  | ⟨d, v, .eff h' n'⟩ :: l, e, r, h, hs, j, hj => by
    obtain ⟨e', h0', rfl, _⟩ := hs
    have : l.length = j := Option.some.inj hj
    rw [bit_or, this]
    simp
theorem runD_ok (hl : Le E.callR0 cr) (hck : CK E.callK cr) (hV : V.Ok E.P) (hn : nt ≤ E.n) (hM : ∀ j a, j < ops.size → ((mk.get j).getD 0).testBit a = true → a < j) : ∀ (l : List Oper) (dl : List (Dk × I)) (rv : List Rec) (e r : Nat) (t : Tr RV) (h : Hp) (nx : Nat), rv.length + l.length = ops.size → drGo E.P V nt ops mk l rv.length e r = some dl → runD E dl rv.length base S0 t h nx ds kn = some r0 →
    Sq E.P (fun j => (mk.get j).getD 0) S0 rv e r h → (stE (fun j => (mk.get j).getD 0) S0 (base + ops.size) all rv).2.2 = nx →
    ∃ rvF tF e' r' hF nxF, genD E.P cr ops mk S0 base E.n l rv t = some (rvF, tF) ∧ Sq E.P (fun j => (mk.get j).getD 0) S0 rvF e' r' hF ∧ (stE (fun j => (mk.get j).getD 0) S0 (base + ops.size) all rvF).2.2 = nxF ∧ kn tF hF nxF ds = some r0 ∧ rvF.length = ops.size
  | [], dl, rv, e, r, t, h, nx, hlen, hg, hr, hs, hnx => by
    cases hg
    exact ⟨rv, t, e, r, h, nx, rfl, hs, hnx, hr, by simpa using hlen⟩
  | o :: l, dl, rv, e, r, t, h, nx, hlen, hg, hr, hs, hnx => by
    have hlen' : rv.length < ops.size := by simp at hlen; omega
    rw [drGo] at hg
    cases hdk : dkOf E.P nt o with
    | none => rw [hdk] at hg; cases hg
    | some dk =>
      rw [hdk] at hg
      have hdef : isDefer o.op = false := by
        unfold dkOf at hdk
        cases hh : isDefer o.op with
        | false => rfl
        | true => rw [hh] at hdk; cases hdk
      unfold dkOf at hdk
      rw [hdef, cond_false] at hdk
      -- whoever is skipped
      have skip : ∀ {dl' : List (Dk × I)} {e1 r1 : Nat} {t' : Tr RV}, wantedR t ops o = some false → putR t E.n o.dst undR some = some t' → drGo E.P V nt ops mk l (rv.length + 1) e1 r1 = some dl' → runD E dl' (rv.length + 1) base S0 t' h nx ds kn = some r0 → Sq E.P (fun j => (mk.get j).getD 0) S0 (⟨o.dst, undR, .flat⟩ :: rv) e1 r1 h →
          ∃ rvF tF e' r' hF nxF, genD E.P cr ops mk S0 base E.n (o :: l) rv t = some (rvF, tF) ∧ Sq E.P (fun j => (mk.get j).getD 0) S0 rvF e' r' hF ∧ (stE (fun j => (mk.get j).getD 0) S0 (base + ops.size) all rvF).2.2 = nxF ∧ kn tF hF nxF ds = some r0 ∧ rvF.length = ops.size := fun {dl' e1 r1 t'} hw hp hg' hr' hs' => by
        obtain ⟨rvF, tF, e', r', hF, nxF, k1, k2⟩ := runD_ok hl hck hV hn hM l dl' (⟨o.dst, undR, .flat⟩ :: rv) e1 r1 t' h nx (by simp only [List.length_cons] at hlen ⊢; omega) hg' hr' hs' hnx
        refine ⟨rvF, tF, e', r', hF, nxF, ?_, k2⟩
        rw [genD]
        dsimp only
        rw [hw]
        simp only
        rw [putR_bind2, hp]
        exact k1
      cases hc : clsR E.P o with
      | pure =>
        rw [hc] at hdk
        cases hdk
        simp only [Option.map_eq_some_iff] at hg
        obtain ⟨dl', hg', rfl⟩ := hg
        have h1 : stepI (cI V nt ops o) E t h nx ds (fun t h nx ds => runD E dl' (rv.length + 1) base S0 t h nx ds kn) noX = some r0 := hr
        have h2 : outK (fun t h nx ds => runD E dl' (rv.length + 1) base S0 t h nx ds kn) noX (runOps E.P cr ops [o] ⟨t, E.n, h, nx, ds⟩) = some r0 := cI_ok hn hl hck hV h1
        rcases step1 hdef h2 with ⟨hw, t', hp, hk⟩ | ⟨hw, q, h', nx', t', ho, hp, hk⟩
        · exact skip hw hp hg' hk ⟨e, r, fun _ h => h, fun _ h => h, hs⟩
        · unfold opR at ho
          rw [hc] at ho
          simp only at ho
          cases hq : pureR E.P t o with
          | none => rw [hq] at ho; cases ho
          | some q' =>
            rw [hq] at ho
            cases ho
            obtain ⟨rvF, tF, e', r', hF, nxF, k1, k2⟩ := runD_ok hl hck hV hn hM l dl' (⟨o.dst, q, .flat⟩ :: rv) e r t' h nx (by simp only [List.length_cons] at hlen ⊢; omega) hg' hk ⟨e, r, fun _ h => h, fun _ h => h, hs⟩ hnx
            refine ⟨rvF, tF, e', r', hF, nxF, ?_, k2⟩
            rw [genD]
            dsimp only
            rw [hw]
            simp only [hc, hq]
            rw [putR_bind2, hp]
            exact k1
      | read =>
        rw [hc] at hdk
        simp only at hdk
        cases hdst : o.dst with
        | none => rw [hdst] at hdk; cases hdk
        | some d =>
          rw [hdst] at hdk
          simp only at hdk
          cases hb : Nat.ble (d + 1) nt with
          | false => rw [hb] at hdk; cases hdk
          | true =>
            rw [hb, cond_true] at hdk
            cases hdk
            simp only at hg
            cases hcov : coversN ((mk.get rv.length).getD 0) e with
            | false => rw [hcov] at hg; cases hg
            | true =>
              rw [hcov, cond_true] at hg
              simp only [Option.map_eq_some_iff] at hg
              obtain ⟨dl', hg', rfl⟩ := hg
              have h1 : stepI (cI V nt ops o) E t h nx ds (fun t h nx ds => getP (pathOf d) t fun v => selfK v (runD E dl' (rv.length + 1) base S0 t h nx ds kn) none) noX = some r0 := hr
              have h2 : outK (fun t h nx ds => getP (pathOf d) t fun v => selfK v (runD E dl' (rv.length + 1) base S0 t h nx ds kn) none) noX (runOps E.P cr ops [o] ⟨t, E.n, h, nx, ds⟩) = some r0 := cI_ok hn hl hck hV h1
              have hput : ∀ {q : RV} {t' : Tr RV}, putR t E.n o.dst q some = some t' → (t'.get d).getD undR = q := fun {q t'} hp => by
                rw [hdst] at hp
                have h3 : (bif Nat.ble (d + 1) E.n then putT t d q some else none) = some t' := hp
                rw [Nat.ble_eq_true_of_le (Nat.le_trans (Nat.le_of_ble_eq_true hb) hn), cond_true, putT_eq] at h3
                cases h3
                rw [Tr.get_set, if_pos rfl]
                rfl
              rcases step1 hdef h2 with ⟨hw, t', hp, hk⟩ | ⟨hw, q, h', nx', t', ho, hp, hk⟩
              · rw [getP_eq] at hk
                obtain ⟨_, hk2⟩ := selfK_some hk
                exact skip hw hp hg' hk2 ⟨e, r, fun _ h => h, fun _ h => bit_orl h, hs⟩
              · rw [getP_eq, hput hp] at hk
                obtain ⟨hself, hk2⟩ := selfK_some hk
                unfold opR at ho
                rw [hc] at ho
                simp only at ho
                cases hq : readR E.P t h o with
                | none => rw [hq] at ho; cases ho
                | some q' =>
                  rw [hq] at ho
                  cases ho
                  obtain ⟨rvF, tF, e', r', hF, nxF, k1, k2⟩ := runD_ok hl hck hV hn hM l dl' (⟨o.dst, q, .read t o⟩ :: rv) e (r ||| 2 ^ rv.length) t' h nx (by simp only [List.length_cons] at hlen ⊢; omega) hg' hk2 ⟨r, rfl, hs, hcov, hq, hself⟩ hnx
                  refine ⟨rvF, tF, e', r', hF, nxF, ?_, k2⟩
                  obtain ⟨_, _, hview⟩ := Sq.view (nx0 := base + ops.size) hM (by omega) hs
                  have hv := hview (fun a => ((mk.get rv.length).getD 0).testBit a) fun j hj => coversN_bit hcov hj
                  rw [genD]
                  dsimp only
                  rw [hw]
                  simp only [hc]
                  have hv2 : htA (fun a => ((mk.get rv.length).getD 0).testBit a) (stE (fun j => (mk.get j).getD 0) S0 (base + ops.size) (fun _ => true) rv).1 (stE (fun j => (mk.get j).getD 0) S0 (base + ops.size) (fun _ => true) rv).2.1 rv = h := hv
                  rw [hv2, hq]
                  simp only
                  rw [putR_bind2, hp]
                  exact k1
      | alloc =>
        rw [hc] at hdk
        cases hdk
        simp only [Option.map_eq_some_iff] at hg
        obtain ⟨dl', hg', rfl⟩ := hg
        have h0 : forceNK (Nat.add base rv.length) (fun G => optK (getF S0 G) (fun _ => none) (stepI (cI V nt ops o) E t h G ds (fun t h _ ds => runD E dl' (rv.length + 1) base S0 t h nx ds kn) noX)) = some r0 := hr
        rw [forceNK_eq, getF_eq] at h0
        have hnone : S0.get (base + rv.length) = none := by
          cases hh : S0.get (base + rv.length) with
          | none => rfl
          | some x =>
            have h1 : optK (S0.get (base + rv.length)) (fun _ => none) (stepI (cI V nt ops o) E t h (base + rv.length) ds (fun t h _ ds => runD E dl' (rv.length + 1) base S0 t h nx ds kn) noX) = some r0 := h0
            rw [hh] at h1
            cases h1
        have h1 : stepI (cI V nt ops o) E t h (base + rv.length) ds (fun t h _ ds => runD E dl' (rv.length + 1) base S0 t h nx ds kn) noX = some r0 := by
          have h1 : optK (S0.get (base + rv.length)) (fun _ => none) (stepI (cI V nt ops o) E t h (base + rv.length) ds (fun t h _ ds => runD E dl' (rv.length + 1) base S0 t h nx ds kn) noX) = some r0 := h0
          rw [hnone] at h1
          exact h1
        have h2 : outK (fun t h _ ds => runD E dl' (rv.length + 1) base S0 t h nx ds kn) noX (runOps E.P cr ops [o] ⟨t, E.n, h, base + rv.length, ds⟩) = some r0 := cI_ok hn hl hck hV h1
        rcases step1 hdef h2 with ⟨hw, t', hp, hk⟩ | ⟨hw, q, h', nx', t', ho, hp, hk⟩
        · exact skip hw hp hg' hk ⟨e, r, fun _ h => bit_orl h, fun _ h => h, hs⟩
        · unfold opR at ho
          rw [hc] at ho
          simp only at ho
          cases hq : allocR E.P t (base + rv.length) o with
          | none => rw [hq] at ho; cases ho
          | some p =>
            obtain ⟨q', ob⟩ := p
            rw [hq] at ho
            simp only [forceN_eq, putT_eq] at ho
            cases ho
            obtain ⟨rvF, tF, e', r', hF, nxF, k1, k2⟩ := runD_ok hl hck hV hn hM l dl' (⟨o.dst, q, .alloc (base + rv.length) ob⟩ :: rv) (e ||| 2 ^ rv.length) r t' (h.set (base + rv.length) ob) nx (by simp only [List.length_cons] at hlen ⊢; omega) hg' hk ⟨e, h, rfl, rfl, hs⟩ hnx
            refine ⟨rvF, tF, e', r', hF, nxF, ?_, k2⟩
            rw [genD]
            dsimp only
            rw [hw]
            simp only [hc, hnone, forceN_eq, hq]
            rw [putR_bind2, hp]
            exact k1
      | eff =>
        rw [hc] at hdk
        cases hdk
        simp only at hg
        cases hcov : coversN ((mk.get rv.length).getD 0) (e ||| r) with
        | false => rw [hcov] at hg; cases hg
        | true =>
          rw [hcov, cond_true] at hg
          simp only [Option.map_eq_some_iff] at hg
          obtain ⟨dl', hg', rfl⟩ := hg
          have h1 : stepI (cI V nt ops o) E t h nx ds (fun t h nx ds => runD E dl' (rv.length + 1) base S0 t h nx ds kn) noX = some r0 := hr
          have h2 : outK (fun t h nx ds => runD E dl' (rv.length + 1) base S0 t h nx ds kn) noX (runOps E.P cr ops [o] ⟨t, E.n, h, nx, ds⟩) = some r0 := cI_ok hn hl hck hV h1
          rcases step1 hdef h2 with ⟨hw, t', hp, hk⟩ | ⟨hw, q, h', nx', t', ho, hp, hk⟩
          · exact skip hw hp hg' hk ⟨e, r, fun _ h => bit_orl h, fun _ h => h, hs⟩
          · unfold opR at ho
            rw [hc] at ho
            simp only at ho
            obtain ⟨rvF, tF, e', r', hF, nxF, k1, k2⟩ := runD_ok hl hck hV hn hM l dl' (⟨o.dst, q, .eff h' nx'⟩ :: rv) (e ||| 2 ^ rv.length) r t' h' nx' (by simp only [List.length_cons] at hlen ⊢; omega) hg' hk ⟨e, h, rfl, hcov, rfl, hs⟩ rfl
            refine ⟨rvF, tF, e', r', hF, nxF, ?_, k2⟩
            obtain ⟨_, _, hview⟩ := Sq.view (nx0 := base + ops.size) hM (by omega) hs
            have hv := hview (fun a => ((mk.get rv.length).getD 0).testBit a) fun j hj => coversN_bit hcov (bit_orl hj)
            have hv2 : htA (fun a => ((mk.get rv.length).getD 0).testBit a) (stE (fun j => (mk.get j).getD 0) S0 (base + ops.size) (fun _ => true) rv).1 (stE (fun j => (mk.get j).getD 0) S0 (base + ops.size) (fun _ => true) rv).2.1 rv = h := hv
            have hnx2 : (stE (fun j => (mk.get j).getD 0) S0 (base + ops.size) (fun _ => true) rv).2.2 = nx := hnx
            have hch : chained ((mk.get rv.length).getD 0) (lastEff rv) = true := by
              cases hle : lastEff rv with
              | none => rfl
              | some j => exact coversN_bit hcov (bit_orl (lastEff_bit hs j hle))
            rw [genD]
            dsimp only
            rw [hw]
            simp only [hc]
            rw [hch, cond_true, hv2, hnx2, ho]
            simp only
            rw [putR_bind2, hp]
            exact k1
end
end Go.Proofs.YtlimlmjljjmcpaaGreatDoor.Ax

/-
  The lean reckoning of functions is right.
-/
set_option linter.unusedVariables false
set_option linter.unusedSimpArgs false
namespace Go.Proofs.YtlimlmjljjmcpaaGreatDoor.Ax
open Go Go.RowKit
/-- on, if it went on -/
def thenR (x : Option (RX × St)) (F : St → Option (RX × St)) : Option (RX × St) := match x with
  | some (.normal, s') => F s'
  | r => r
theorem thenR_mono {x x' : Option (RX × St)} {F F' : St → Option (RX × St)} {y : RX × St} (hx : ∀ y, x = some y → x' = some y) (hF : ∀ s, F s = some y → F' s = some y) (h : thenR x F = some y) : thenR x' F' = some y := by
  cases x with
  | none => cases h
  | some q =>
    obtain ⟨z, s⟩ := q
    rw [hx _ rfl]
    cases z with
    | normal => exact hF s h
    | _ => exact h
section
variable {P : Program} {call : CallR}
theorem execC_seq {draw : DrawR} {a b : Code} {s : St} : execC P call draw (.seq a b) s = thenR (execC P call draw a s) (execC P call draw b) := by
  rw [execC]
  unfold thenR
  cases execC P call draw a s with
  | none => rfl
  | some q => obtain ⟨z, s⟩ := q; cases z <;> rfl
theorem loopR_succ {body : St → Option (RX × St)} {f : Nat} {s : St} : loopR body (f + 1) s = thenR (body s) (loopR body f) := by
  rw [loopR]
  unfold thenR
  cases body s with
  | none => rfl
  | some q => obtain ⟨z, s⟩ := q; cases z <;> rfl
/-! ### the frame's size stays -/
theorem runOps_n {ops : Array Oper} : ∀ {l : List Oper} {s s' : St} {x : RX}, runOps P call ops l s = some (x, s') → s'.n = s.n
  | [], s, s', x, h => by
    cases h
    rfl
  | o :: l, s, s', x, h => by
    have step : ∀ {q : RV} {h1 : Hp} {n1 : Nat} {d1 : Option (List DC)}, putR s.tm s.n o.dst q (fun t' => runOps P call ops l ⟨t', s.n, h1, n1, d1⟩) = some (x, s') → s'.n = s.n := fun {q h1 n1 d1} hh => by
      rw [putR_bind2] at hh
      cases hq : putR s.tm s.n o.dst q some with
      | none => rw [hq] at hh; cases hh
      | some t' =>
        rw [hq] at hh
        have h2 : runOps P call ops l ⟨t', s.n, h1, n1, d1⟩ = some (x, s') := hh
        exact runOps_n (s := ⟨t', s.n, h1, n1, d1⟩) h2
    unfold runOps at h
    split at h <;> try cases h
    · split at h
      · cases h
        rfl
      · split at h
        · exact step h
        · cases h
          rfl
        · split at h <;> try cases h
          split at h <;> try cases h
          exact step h
    · exact step h
theorem runOps_cons {ops : Array Oper} {o : Oper} {l : List Oper} {s : St} : runOps P call ops (o :: l) s = thenR (runOps P call ops [o] s) (runOps P call ops l) := by
  have step : ∀ {q : RV} {h1 : Hp} {n1 : Nat} {d1 : Option (List DC)}, putR s.tm s.n o.dst q (fun t' => runOps P call ops l ⟨t', s.n, h1, n1, d1⟩) = thenR (putR s.tm s.n o.dst q (fun t' => runOps P call ops [] ⟨t', s.n, h1, n1, d1⟩)) (runOps P call ops l) := fun {q h1 n1 d1} => by
    rw [putR_bind2, putR_bind2 (q := q) (k := fun t' => runOps P call ops [] ⟨t', s.n, h1, n1, d1⟩)]
    cases putR s.tm s.n o.dst q some <;> rfl
  rw [runOps, runOps]
  cases wantedR s.tm ops o with
  | none => rfl
  | some b =>
    cases b with
    | false => exact step
    | true =>
      simp only
      cases panicR s.tm o with
      | some v => rfl
      | none =>
        simp only
        cases opR P call s.tm s.h s.nx o with
        | none =>
          simp only
          cases deferR s.tm o with
          | none => rfl
          | some fa =>
            obtain ⟨f, ags⟩ := fa
            simp only
            cases s.ds with
            | none => rfl
            | some l' => exact step
        | some q =>
          obtain ⟨re, h', nx'⟩ := q
          cases re with
          | ret r => exact step
          | pan v => rfl
theorem drawR_n {ops : Array Oper} {s s' : St} {x : RX} (h : drawR P call ops s = some (x, s')) : s'.n = s.n := by
  unfold drawR at h
  split at h <;> try cases h
  split at h <;> try cases h
  rename_i rv t hgen
  dsimp only at h
  cases hro : readsOk P (fun j => (Tr.get _ j).getD 0) s.h rv rv with
  | false => rw [hro] at h; cases h
  | true =>
    rw [hro, cond_true] at h
    split at h <;> (cases h; rfl)
theorem endLoopR_n {G : Nat} {s s' : St} {l : List DC} {h : Hp} {nx : Nat} {x : RX} (hh : endLoopR G s l h nx = some (x, s')) : s'.n = s.n := by
  unfold endLoopR at hh
  split at hh <;> try cases hh
  split at hh <;> try cases hh
  all_goals
    rw [putT_eq] at hh
    split at hh <;> (cases hh; try rfl)
theorem loopFR_n {g : Operand} {ps : Array Tmp} {a b : Code} {s s' : St} {x : RX} (h : loopFR call g ps a b s = some (x, s')) : s'.n = s.n := by
  unfold loopFR at h
  split at h <;> try cases h
  simp only [forceN_eq] at h
  split at h <;> try cases h
  simp only [putT_eq] at h
  split at h <;> try cases h
  exact endLoopR_n h
theorem loopR_n {body : St → Option (RX × St)} (hb : ∀ {s s' x}, body s = some (x, s') → s'.n = s.n) : ∀ {f : Nat} {s s' : St} {x : RX}, loopR body f s = some (x, s') → s'.n = s.n
  | 0, s, s', x, h => by cases h
  | f + 1, s, s', x, h => by
    unfold loopR at h
    split at h
    · rename_i s1 h1
      exact (loopR_n hb h).trans (hb h1)
    · exact hb h
theorem execC_n {draw : DrawR} (hd : ∀ {ops s s' x}, draw ops s = some (x, s') → s'.n = s.n) : ∀ {c : Code} {s s' : St} {x : RX}, execC P call draw c s = some (x, s') → s'.n = s.n
  | .skip, s, s', x, h => by cases h; rfl
  | .label _, s, s', x, h => by cases h; rfl
  | .exit _, s, s', x, h => by cases h; rfl
  | .ret, s, s', x, h => by cases h; rfl
  | .seq a b, s, s', x, h => by
    unfold execC at h
    split at h
    · rename_i s1 h1
      exact (execC_n hd h).trans (execC_n hd h1)
    · exact execC_n hd h
  | .cond c a b, s, s', x, h => by
    unfold execC at h
    split at h <;> try cases h
    · exact execC_n hd h
    · exact execC_n hd h
  | .block id c, s, s', x, h => by
    unfold execC at h
    split at h
    · rename_i id' s1 h1
      have := execC_n hd h1
      cases hb : Nat.beq id' id <;> (rw [hb] at h; cases h; exact this)
    · exact execC_n hd h
  | .loop c, s, s', x, h => by
    unfold execC at h
    exact loopR_n (fun hh => execC_n hd hh) h
  | .region _ ops false, s, s', x, h => runOps_n h
  | .region _ ops true, s, s', x, h => hd h
  | .rangeFunc g ps a b, s, s', x, h => loopFR_n h
  | .scope _, s, s', x, h => by cases h
  | .goto _, s, s', x, h => by cases h
  | .refuse _, s, s', x, h => by cases h
end
/-! ### more calls known, no less said -/
section
variable {P : Program} {cr cr' : CallR}
theorem genD_mono (hl : Le cr cr') {ops : Array Oper} {mk : Tr Nat} {S0 : Hp} {base n : Nat} : ∀ {l : List Oper} {rv : List Rec} {t : Tr RV} {x : List Rec × Tr RV}, genD P cr ops mk S0 base n l rv t = some x → genD P cr' ops mk S0 base n l rv t = some x
  | [], rv, t, x, h => h
  | o :: l, rv, t, x, h => by
    rw [genD] at h ⊢
    dsimp only at h ⊢
    cases hw : wantedR t ops o with
    | none => rw [hw] at h; cases h
    | some b =>
      rw [hw] at h
      cases b with
      | false => exact putR_mono (fun t' => genD_mono hl) h
      | true =>
        simp only at h ⊢
        cases hc : clsR P o with
        | pure =>
          rw [hc] at h
          simp only at h ⊢
          cases hq : pureR P t o with
          | none => rw [hq] at h; cases h
          | some r => rw [hq] at h; exact putR_mono (fun t' => genD_mono hl) h
        | read =>
          rw [hc] at h
          simp only at h ⊢
          cases hq : readR P t (htA (fun a => (((mk.get rv.length).getD 0)).testBit a) (stE (fun j => (mk.get j).getD 0) S0 (base + ops.size) (fun _ => true) rv).1 (stE (fun j => (mk.get j).getD 0) S0 (base + ops.size) (fun _ => true) rv).2.1 rv) o with
          | none => rw [hq] at h; cases h
          | some r => rw [hq] at h; exact putR_mono (fun t' => genD_mono hl) h
        | alloc =>
          rw [hc] at h
          simp only at h ⊢
          cases hg : S0.get (base + rv.length) with
          | some _ => rw [hg] at h; cases h
          | none =>
            rw [hg] at h
            simp only [forceN_eq] at h ⊢
            cases hq : allocR P t (base + rv.length) o with
            | none => rw [hq] at h; cases h
            | some p =>
              obtain ⟨r, ob⟩ := p
              rw [hq] at h
              exact putR_mono (fun t' => genD_mono hl) h
        | eff =>
          rw [hc] at h
          simp only at h ⊢
          cases hch : chained ((mk.get rv.length).getD 0) (lastEff rv) with
          | false => rw [hch] at h; cases h
          | true =>
            rw [hch, cond_true] at h
            rw [cond_true]
            cases hq : effR P cr t (htA (fun a => (((mk.get rv.length).getD 0)).testBit a) (stE (fun j => (mk.get j).getD 0) S0 (base + ops.size) (fun _ => true) rv).1 (stE (fun j => (mk.get j).getD 0) S0 (base + ops.size) (fun _ => true) rv).2.1 rv) (stE (fun j => (mk.get j).getD 0) S0 (base + ops.size) (fun _ => true) rv).2.2 o with
            | none => rw [hq] at h; cases h
            | some p =>
              obtain ⟨re, h', nx'⟩ := p
              rw [hq] at h
              rw [effR_mono hl hq]
              cases re with
              | ret r => exact putR_mono (fun t' => genD_mono hl) h
              | pan v => cases h
theorem drawR_mono (hl : Le cr cr') {ops : Array Oper} {s : St} {x : RX × St} (h : drawR P cr ops s = some x) : drawR P cr' ops s = some x := by
  unfold drawR at h ⊢
  cases hs : statOf P ops with
  | none => rw [hs] at h; cases h
  | some mk =>
    rw [hs] at h
    simp only at h ⊢
    cases hg : genD P cr ops mk s.h s.nx s.n ops.toList [] s.tm with
    | none => rw [hg] at h; cases h
    | some p =>
      rw [hg] at h
      rw [genD_mono hl hg]
      exact h
theorem loopFR_mono (hl : Le cr cr') {g : Operand} {ps : Array Tmp} {a b : Code} {s : St} {x : RX × St} (h : loopFR cr g ps a b s = some x) : loopFR cr' g ps a b s = some x := by
  unfold loopFR at h ⊢
  cases hds : s.ds with
  | none => rw [hds] at h; cases h
  | some l =>
    rw [hds] at h
    simp only [forceN_eq, putT_eq] at h ⊢
    cases ht : targetR (evalR s.tm g) [.yld (s.nx + 1)] with
    | none => rw [ht] at h; cases h
    | some fa =>
      obtain ⟨f, ags⟩ := fa
      rw [ht] at h
      simp only at h ⊢
      cases hc : cr (.fn f) ags ((s.h.set s.nx (.ot (.df true))).set (s.nx + 1) (.ot (.lp .ready none s.tm s.n ps a b))) (s.nx + 1 + 1) with
      | none => rw [hc] at h; cases h
      | some q => rw [hc] at h; rw [hl _ _ _ _ _ hc]; exact h
theorem loopR_mono {body body' : St → Option (RX × St)} {x : RX × St} (hb : ∀ s y, body s = some y → body' s = some y) : ∀ {f : Nat} {s : St}, loopR body f s = some x → loopR body' f s = some x
  | 0, s, h => by cases h
  | f + 1, s, h => by
    rw [loopR_succ] at h ⊢
    exact thenR_mono (hb s) (fun s' => loopR_mono hb) h
theorem execC_mono (hl : Le cr cr') : ∀ {c : Code} {s : St} {x : RX × St}, execC P cr (drawR P cr) c s = some x → execC P cr' (drawR P cr') c s = some x
  | .skip, s, x, h => h
  | .label _, s, x, h => h
  | .exit _, s, x, h => h
  | .ret, s, x, h => h
  | .seq a b, s, x, h => by
    rw [execC_seq] at h ⊢
    exact thenR_mono (fun y => execC_mono hl) (fun s' => execC_mono hl) h
  | .cond c a b, s, x, h => by
    rw [execC] at h ⊢
    split at h <;> try cases h
    · rename_i e
      exact execC_mono hl h
    · rename_i e
      exact execC_mono hl h
  | .block id c, s, x, h => by
    rw [execC] at h ⊢
    cases hc : execC P cr (drawR P cr) c s with
    | none => rw [hc] at h; cases h
    | some q => rw [hc] at h; rw [execC_mono hl hc]; exact h
  | .loop c, s, x, h => by
    rw [execC] at h ⊢
    exact loopR_mono (fun s y => execC_mono hl) h
  | .region _ ops false, s, x, h => runOps_mono hl h
  | .region _ ops true, s, x, h => drawR_mono hl h
  | .rangeFunc g ps a b, s, x, h => loopFR_mono hl h
  | .scope _, s, x, h => by cases h
  | .goto _, s, x, h => by cases h
  | .refuse _, s, x, h => by cases h
theorem leaveR_mono (hl : Le cr cr') {orc : CallR} : ∀ {ds : List DC} {h : Hp} {nx : Nat} {x : Hp × Nat}, leaveR P orc cr ds h nx = some x → leaveR P orc cr' ds h nx = some x
  | [], h, nx, x, hh => hh
  | .call f ags :: ds, h, nx, x, hh => by
    rw [leaveR] at hh ⊢
    cases ho : orc (.fn f) ags h nx with
    | some _ => rw [ho] at hh; cases hh
    | none =>
      rw [ho] at hh
      simp only at hh ⊢
      cases hi : idleR P f ags with
      | true =>
        rw [hi] at hh
        exact leaveR_mono hl hh
      | false =>
        rw [hi] at hh
        simp only at hh ⊢
        cases hc : cr (.fn f) ags h nx with
        | none => rw [hc] at hh; cases hh
        | some q =>
          obtain ⟨re, h', nx'⟩ := q
          rw [hc] at hh
          rw [hl _ _ _ _ _ hc]
          cases re with
          | ret r => exact leaveR_mono hl hh
          | pan v => cases hh
  | .mark G :: ds, h, nx, x, hh => by
    rw [leaveR] at hh ⊢
    split at hh <;> try cases hh
    rename_i hg
    rw [putT_eq] at hh
    rw [putT_eq]
    exact leaveR_mono hl hh
theorem byeR_mono (hl : Le cr cr') {orc : CallR} {fn : Func} {s : St} {ds : Option (List DC)} {x : RE × Hp × Nat} (h : byeR P orc cr fn s ds = some x) : byeR P orc cr' fn s ds = some x := by
  unfold byeR at h ⊢
  cases ds with
  | none => cases h
  | some l =>
    simp only at h ⊢
    cases hc : leaveR P orc cr l s.h s.nx with
    | none => rw [hc] at h; cases h
    | some q => rw [hc] at h; rw [leaveR_mono hl hc]; exact h
theorem endR_mono (hl : Le cr cr') {orc : CallR} {fn : Func} {y : Option (RX × St)} {x : RE × Hp × Nat} (h : endR P orc cr fn y = some x) : endR P orc cr' fn y = some x := by
  cases y with
  | none => cases h
  | some q =>
    obtain ⟨z, s⟩ := q
    cases z with
    | normal => exact byeR_mono hl h
    | ret => exact byeR_mono hl h
    | exit id => cases h
    | panic v => exact h
theorem roundR_mono (hl : Le cr cr') {G : Nat} {args : List RV} {h : Hp} {nx : Nat} {x : RE × Hp × Nat} (hh : roundR P cr (drawR P cr) G args h nx = some x) : roundR P cr' (drawR P cr') G args h nx = some x := by
  unfold roundR at hh ⊢
  split at hh <;> try cases hh
  rename_i pend tm n ps assign body hg
  have key : ∀ (l : List Tmp) (ags : List RV) (t : Tr RV), setPs l ags n t (fun tm' => assignedR G (execC P cr (drawR P cr) body) (execC P cr (drawR P cr) assign ⟨tm', n, h, nx, none⟩)) = some x → setPs l ags n t (fun tm' => assignedR G (execC P cr' (drawR P cr') body) (execC P cr' (drawR P cr') assign ⟨tm', n, h, nx, none⟩)) = some x := by
    intro l
    induction l with
    | nil =>
      intro ags t hh
      cases ags with
      | cons a ags => cases hh
      | nil =>
        have h1 : assignedR G (execC P cr (drawR P cr) body) (execC P cr (drawR P cr) assign ⟨t, n, h, nx, none⟩) = some x := hh
        show assignedR G (execC P cr' (drawR P cr') body) (execC P cr' (drawR P cr') assign ⟨t, n, h, nx, none⟩) = some x
        cases ha : execC P cr (drawR P cr) assign ⟨t, n, h, nx, none⟩ with
        | none => rw [ha] at h1; cases h1
        | some q =>
          rw [ha] at h1
          rw [execC_mono hl ha]
          obtain ⟨z, s⟩ := q
          cases z with
          | normal =>
            unfold assignedR at h1 ⊢
            simp only at h1 ⊢
            unfold beginR at h1 ⊢
            split at h1 <;> try cases h1
            rename_i hg2
            rw [putT_eq] at h1
            rw [putT_eq]
            cases hb : execC P cr (drawR P cr) body ⟨s.tm, s.n, _, s.nx, none⟩ with
            | none => rw [hb] at h1; cases h1
            | some q2 => rw [hb] at h1; rw [execC_mono hl hb]; exact h1
          | _ => cases h1
    | cons p l ih =>
      intro ags t hh
      cases ags with
      | nil => cases hh
      | cons a ags =>
        rw [setPs] at hh ⊢
        cases hb : Nat.ble (p + 1) n with
        | false => rw [hb] at hh; cases hh
        | true =>
          rw [hb, cond_true, putT_eq] at hh
          rw [cond_true, putT_eq]
          exact ih _ _ hh
  exact key _ _ _ hh
end
section
variable {E : Env} {V : PV} {nt : Nat}
theorem outK_bind {kn kn' : KN} {kx kx' : KX} {x : Option (RX × St)} {F : St → Option (RX × St)} {r : Ans} (h : outK kn kx x = some r)
    (hn : ∀ s, x = some (.normal, s) → kn s.tm s.h s.nx s.ds = some r → outK kn' kx' (F s) = some r) (hx : ∀ y s, x = some (y, s) → y ≠ .normal → kx y s.tm s.h s.nx s.ds = some r → kx' y s.tm s.h s.nx s.ds = some r) :
    outK kn' kx' (thenR x F) = some r := by
  cases x with
  | none => cases h
  | some q =>
    obtain ⟨y, s⟩ := q
    cases y with
    | normal => exact hn s rfl h
    | exit id => exact hx (.exit id) s rfl (fun e => by cases e) h
    | ret => exact hx .ret s rfl (fun e => by cases e) h
    | panic v => exact hx (.panic v) s rfl (fun e => by cases e) h
theorem runK_ok {cr : CallR} (hl : Le E.callR0 cr) (hck : CK E.callK cr) (hV : V.Ok E.P) (hn : nt ≤ E.n) {ops : Array Oper} : ∀ (l : List Oper) (t : Tr RV) (h : Hp) (nx : Nat) (ds : Option (List DC)) (kn : KN) (kx : KX) (r : Ans), runK E (cIs V nt ops l) t h nx ds kn kx = some r → outK kn kx (runOps E.P cr ops l ⟨t, E.n, h, nx, ds⟩) = some r
  | [], t, h, nx, ds, kn, kx, r, hh => hh
  | o :: l, t, h, nx, ds, kn, kx, r, hh => by
    have h1 : stepI (cI V nt ops o) E t h nx ds (fun t h nx ds => runK E (cIs V nt ops l) t h nx ds kn kx) kx = some r := hh
    have h2 : outK (fun t h nx ds => runK E (cIs V nt ops l) t h nx ds kn kx) kx (runOps E.P cr ops [o] ⟨t, E.n, h, nx, ds⟩) = some r := cI_ok hn hl hck hV h1
    rw [runOps_cons]
    refine outK_bind h2 (fun s hs hk => ?_) fun y s hs hy hk => hk
    have := runK_ok hl hck hV hn l _ _ _ _ _ _ _ hk
    have e : s.n = E.n := runOps_n hs
    rw [← e] at this
    exact this
theorem drawK_ok {cr : CallR} (hl : Le E.callR0 cr) (hck : CK E.callK cr) (hV : V.Ok E.P) (hn : nt ≤ E.n) {ops : Array Oper} {t : Tr RV} {h : Hp} {nx : Nat} {ds : Option (List DC)} {kn : KN} {kx : KX} {r : Ans} (hh : drawK V nt E ops t h nx ds kn kx = some r) : outK kn kx (drawR E.P cr ops ⟨t, E.n, h, nx, ds⟩) = some r := by
  rw [drawK_eq] at hh
  cases hd : drOf E.P V nt ops with
  | none =>
    rw [hd] at hh
    exact outK_mono (fun y hy => drawR_mono hl hy) hh
  | some dl =>
    rw [hd] at hh
    have hh1 : forceNK (Nat.add nx ops.size) (fun n1 => runD E dl 0 nx h t h n1 ds kn) = some r := hh
    rw [forceNK_eq] at hh1
    unfold drOf at hd
    cases hs : statOf E.P ops with
    | none => rw [hs] at hd; cases hd
    | some mk =>
      rw [hs] at hd
      simp only at hd
      have hM0 := (stat_spec hs).1
      have hM : ∀ j a, j < ops.size → ((mk.get j).getD 0).testBit a = true → a < j := fun j a hj ha => hM0.lt' j _ (Array.getElem?_eq_getElem hj) a ha
      obtain ⟨rvF, tF, e', r', hF, nxF, k1, k2, k3, k4, k5⟩ := runD_ok hl hck hV hn hM ops.toList dl [] 0 0 t h (Nat.add nx ops.size) (by simp) hd hh1 ⟨rfl, rfl, rfl⟩ rfl
      obtain ⟨_, _, hv⟩ := Sq.view (nx0 := nx + ops.size) hM (Nat.le_of_eq k5) k2
      have hv := hv (fun _ => true) fun _ _ => rfl
      unfold drawR
      rw [hs]
      simp only [k1]
      rw [Sq.reads hM (Nat.le_of_eq k5) k2 rvF [] rfl, cond_true]
      have e1 : (stE (fun j => (mk.get j).getD 0) h (nx + ops.size) (fun _ => true) rvF) = ((stE (fun j => (mk.get j).getD 0) h (nx + ops.size) (fun _ => true) rvF).1, (stE (fun j => (mk.get j).getD 0) h (nx + ops.size) (fun _ => true) rvF).2.1, nxF) := by
        rw [← k3]
        rfl
      rw [e1]
      simp only
      have hv2 : htA (fun _ => true) (stE (fun j => (mk.get j).getD 0) h (nx + ops.size) (fun _ => true) rvF).1 (stE (fun j => (mk.get j).getD 0) h (nx + ops.size) (fun _ => true) rvF).2.1 rvF = hF := hv
      rw [hv2]
      cases hF with
      | leaf => exact k4
      | node v a b => exact k4
theorem execK_ok {cr : CallR} (hl : Le E.callR0 cr) (hck : CK E.callK cr) (hV : V.Ok E.P) (hn : nt ≤ E.n) : ∀ (c : Code) (t : Tr RV) (h : Hp) (nx : Nat) (ds : Option (List DC)) (kn : KN) (kx : KX) (r : Ans), execK V nt E c t h nx ds kn kx = some r → outK kn kx (execC E.P cr (drawR E.P cr) c ⟨t, E.n, h, nx, ds⟩) = some r
  | .skip, t, h, nx, ds, kn, kx, r, hh => hh
  | .label _, t, h, nx, ds, kn, kx, r, hh => hh
  | .exit _, t, h, nx, ds, kn, kx, r, hh => hh
  | .ret, t, h, nx, ds, kn, kx, r, hh => hh
  | .scope _, t, h, nx, ds, kn, kx, r, hh => by cases hh
  | .goto _, t, h, nx, ds, kn, kx, r, hh => by cases hh
  | .refuse _, t, h, nx, ds, kn, kx, r, hh => by cases hh
  | .region _ ops false, t, h, nx, ds, kn, kx, r, hh => runK_ok hl hck hV hn _ _ _ _ _ _ _ _ hh
  | .region _ ops true, t, h, nx, ds, kn, kx, r, hh => drawK_ok hl hck hV hn hh
  | .rangeFunc g ps a b, t, h, nx, ds, kn, kx, r, hh => outK_mono (fun y hy => loopFR_mono hl hy) hh
  | .seq a b, t, h, nx, ds, kn, kx, r, hh => by
    have h1 := execK_ok hl hck hV hn a t h nx ds (fun t h nx ds => execK V nt E b t h nx ds kn kx) kx r hh
    rw [execC_seq]
    refine outK_bind h1 (fun s hs hk => ?_) fun y s hs hy hk => hk
    have := execK_ok hl hck hV hn b _ _ _ _ _ _ _ hk
    have e : s.n = E.n := execC_n (fun hd => drawR_n hd) hs
    rw [← e] at this
    exact this
  | .cond c a b, t, h, nx, ds, kn, kx, r, hh => by
    have h1 : getO (cOd c) t (fun v => condK v (execK V nt E a t h nx ds kn kx) (execK V nt E b t h nx ds kn kx) none) = some r := hh
    rw [getO_eq] at h1
    rcases boolK_some h1 with e | ⟨q, e1, hk⟩
    · cases e
    rw [execC]
    simp only [e1]
    cases q with
    | true => exact execK_ok hl hck hV hn a _ _ _ _ _ _ _ hk
    | false => exact execK_ok hl hck hV hn b _ _ _ _ _ _ _ hk
  | .block id c, t, h, nx, ds, kn, kx, r, hh => by
    have h1 := execK_ok hl hck hV hn c t h nx ds kn (exitK id kn kx) r hh
    rw [execC]
    cases hx : execC E.P cr (drawR E.P cr) c ⟨t, E.n, h, nx, ds⟩ with
    | none => rw [hx] at h1; cases h1
    | some q =>
      obtain ⟨y, s⟩ := q
      rw [hx] at h1
      cases y with
      | normal => exact h1
      | ret => exact h1
      | panic v => exact h1
      | exit id' =>
        have h2 : (Bool.rec (kx (.exit id') s.tm s.h s.nx s.ds) (kn s.tm s.h s.nx s.ds) (Nat.beq id' id) : Option Ans) = some r := h1
        cases hb : Nat.beq id' id with
        | true =>
          rw [hb] at h2
          simp only [hb, cond_true]
          exact h2
        | false =>
          rw [hb] at h2
          simp only [hb, cond_false]
          exact h2
  | .loop c, t, h, nx, ds, kn, kx, r, hh => by
    have key : ∀ (f : Nat) (t : Tr RV) (h : Hp) (nx : Nat) (ds : Option (List DC)), loopK (execK V nt E c) kx f t h nx ds = some r →
        outK kn kx (loopR (execC E.P cr (drawR E.P cr) c) f ⟨t, E.n, h, nx, ds⟩) = some r := by
      intro f
      induction f with
      | zero =>
        intro t h nx ds hh
        cases hh
      | succ f ih =>
        intro t h nx ds hh
        have h1 := execK_ok hl hck hV hn c t h nx ds _ kx r hh
        rw [loopR_succ]
        refine outK_bind h1 (fun s hs hk => ?_) fun y s hs hy hk => hk
        have := ih _ _ _ _ hk
        have e : s.n = E.n := execC_n (fun hd => drawR_n hd) hs
        rw [← e] at this
        exact this
    rw [execC]
    exact key lots t h nx ds hh
end
/-! ### calls -/
section
variable {P : Program} {V : PV} {orc : CallR}
theorem resC_ok : ∀ {l : List ResultVar} {ps : List Pa}, resC l = some ps → ∀ (s : St) {β : Type} (k : List RV → β), ∃ rs, resultsR P s l = some rs ∧ getsP ps s.tm k = k rs
  | [], ps, h, s, β, k => by
    cases h
    exact ⟨[], rfl, rfl⟩
  | .tmp i :: l, ps, h, s, β, k => by
    unfold resC at h
    split at h <;> cases h
    rename_i ps' hp
    obtain ⟨rs, h1, h2⟩ := resC_ok hp s (fun l => k ((s.tm.get i).getD undR :: l))
    refine ⟨(s.tm.get i).getD undR :: rs, ?_, ?_⟩
    · unfold resultsR resultR
      have e : evalR s.tm (.tmp i) = (s.tm.get i).getD undR := by
        show (match s.tm.get i with | some r => r | none => .lit undef) = _
        cases s.tm.get i <;> rfl
      simp only [h1, e]
    · have e : getsP (pathOf i :: ps') s.tm k = getP (pathOf i) s.tm fun r => getsP ps' s.tm fun l => k (r :: l) := rfl
      rw [e, getP_eq]
      exact h2
  | .cell a ty :: l, ps, h, s, β, k => by cases h
theorem oneK2_eq {β : Type} (l : List RV) (k : RV → β) : oneK2 l k = k (oneOf l) := by
  rcases l with _ | ⟨a, _ | ⟨b, l⟩⟩ <;> rfl
theorem slowEnd_ok {E : Env} {cr : CallR} (hl : Le E.callR0 cr) {fn : Func} {k : RE → Hp → Nat → Option Ans} {x : RX} {t : Tr RV} {h : Hp} {nx : Nat} {ds : Option (List DC)} {r : Ans} (hh : slowEnd orc E fn k x t h nx ds = some r) : ansK k (endR E.P orc cr fn (some (x, ⟨t, E.n, h, nx, ds⟩))) = some r := by
  unfold slowEnd at hh
  split at hh
  · rename_i re h' nx' e
    rw [endR_mono hl e]
    exact hh
  · cases hh
theorem quickEnd_ok {E : Env} {cr : CallR} (hl : Le E.callR0 cr) {fn : Func} {k : RE → Hp → Nat → Option Ans} {x : RX} {t : Tr RV} {h : Hp} {nx : Nat} {ds : Option (List DC)} {r : Ans} (hx : x = .normal ∨ x = .ret) (hh : quickEnd orc E fn k x t h nx ds = some r) : ansK k (endR E.P orc cr fn (some (x, ⟨t, E.n, h, nx, ds⟩))) = some r := by
  unfold quickEnd at hh
  cases hc : resC fn.results.toList with
  | none => rw [hc] at hh; exact slowEnd_ok hl hh
  | some ps =>
    rw [hc] at hh
    have h1 : noDefers ds (getsP ps t fun l => oneK2 l fun q => k (.ret q) h nx) (slowEnd orc E fn k x t h nx ds) = some r := hh
    unfold noDefers at h1
    split at h1
    · obtain ⟨rs, h2, h3⟩ := resC_ok (P := E.P) hc ⟨t, E.n, h, nx, some []⟩ (fun l => oneK2 l fun q => k (.ret q) h nx)
      have h3' : getsP ps t (fun l => oneK2 l fun q => k (.ret q) h nx) = oneK2 rs fun q => k (.ret q) h nx := h3
      rw [h3', oneK2_eq] at h1
      have e : endR E.P orc cr fn (some (x, ⟨t, E.n, h, nx, some []⟩)) = some (.ret (oneOf rs), h, nx) := by
        rcases hx with rfl | rfl <;> simp only [endR, byeR, leaveR, wentR, h2]
      rw [e]
      exact h1
    · exact slowEnd_ok hl h1
theorem lenKN_len {α : Type} (l : List α) : lenKN l = l.length := lenKN_eq l
theorem argK_eq {β : Type} : ∀ (l : List RV) (i : Nat) (t : Tr RV) (k : Tr RV → β), argK l i t k = argT l i t k
  | [], i, t, k => rfl
  | r :: l, i, t, k => by
    show setF r t i (fun t' => argK l (Nat.succ i) t' k) = putT t i r fun t' => argT l (i + 1) t' k
    rw [setF_eq, putT_eq, argK_eq l]
theorem maxK_eq (a b : Nat) : maxK a b = max a b := by
  unfold maxK
  cases h : Nat.ble a b with
  | true =>
    have := Nat.le_of_ble_eq_true h
    show b = _
    omega
  | false =>
    have : ¬ a ≤ b := fun e => by rw [Nat.ble_eq_true_of_le e] at h; cases h
    show a = _
    omega
theorem codeOf_ok (hV : V.Ok P) {f : FuncId} {fc : Func × Code} (h : codeOf V f = some fc) : funcR P f = some fc := by
  unfold codeOf at h
  split at h <;> try cases h
  rename_i fn hfn
  unfold funcR
  rw [hV.func _ _ hfn]
  exact h
theorem bodyK_ok (hV : V.Ok P) {ck : CallK} {cq cr : CallR} (hl : Le cq cr) (hck : CK ck cr) {who : Who} {args : List RV} {h : Hp} {nx : Nat} {k : RE → Hp → Nat → Option Ans} {r : Ans} (hh : bodyK P V orc ck cq who args h nx k = some r) : ansK k (bodyR P orc cr (drawR P cr) who args h nx) = some r := by
  cases who with
  | yld G =>
    have h1 : ansK k (roundR P cq (drawR P cq) G args h nx) = some r := hh
    show ansK k (roundR P cr (drawR P cr) G args h nx) = some r
    cases hr : roundR P cq (drawR P cq) G args h nx with
    | none => rw [hr] at h1; cases h1
    | some q => rw [hr] at h1; rw [roundR_mono hl hr]; exact h1
  | fn f =>
    have h1 : optK (codeOf V f) (fun p => Prod.rec (fun fn c => optK (orc (.fn f) args h nx) (fun r => ansK k (some r)) (enterK P V orc ck cq fn c args h nx k)) p) none = some r := hh
    cases hc : codeOf V f with
    | none => rw [hc] at h1; cases h1
    | some fc =>
      obtain ⟨fn, c⟩ := fc
      rw [hc] at h1
      rw [bodyR, codeOf_ok hV hc]
      simp only
      cases ho : orc (.fn f) args h nx with
      | some q =>
        have h2 : optK (orc (.fn f) args h nx) (fun r => ansK k (some r)) (enterK P V orc ck cq fn c args h nx k) = some r := h1
        rw [ho] at h2
        exact h2
      | none =>
        have h2 : optK (orc (.fn f) args h nx) (fun r => ansK k (some r)) (enterK P V orc ck cq fn c args h nx k) = some r := h1
        rw [ho] at h2
        have h3 : enterK P V orc ck cq fn c args h nx k = some r := h2
        unfold enterK at h3
        rw [forceNK_eq, argK_eq, maxK_eq, lenKN_len] at h3
        obtain ⟨t, ht, _⟩ := argT_some args 0 .leaf fun t => execK V fn.ntmps ⟨P, ck, cq, max fn.ntmps args.length⟩ c t h nx (some []) (normK orc ⟨P, ck, cq, max fn.ntmps args.length⟩ fn k) (retK orc ⟨P, ck, cq, max fn.ntmps args.length⟩ fn k)
        obtain ⟨t2, ht2, hget2⟩ := argT_some args 0 .leaf fun t => endR P orc cr fn (execC P cr (drawR P cr) c ⟨t, max fn.ntmps args.length, h, nx, some []⟩)
        have key : ∀ (l : List RV) (i : Nat) (t0 : Tr RV), (∀ t, execK V fn.ntmps ⟨P, ck, cq, max fn.ntmps args.length⟩ c t h nx (some []) (normK orc ⟨P, ck, cq, max fn.ntmps args.length⟩ fn k) (retK orc ⟨P, ck, cq, max fn.ntmps args.length⟩ fn k) = some r → ansK k (endR P orc cr fn (execC P cr (drawR P cr) c ⟨t, max fn.ntmps args.length, h, nx, some []⟩)) = some r) →
            argT l i t0 (fun t => execK V fn.ntmps ⟨P, ck, cq, max fn.ntmps args.length⟩ c t h nx (some []) (normK orc ⟨P, ck, cq, max fn.ntmps args.length⟩ fn k) (retK orc ⟨P, ck, cq, max fn.ntmps args.length⟩ fn k)) = some r → ansK k (argT l i t0 fun t => endR P orc cr fn (execC P cr (drawR P cr) c ⟨t, max fn.ntmps args.length, h, nx, some []⟩)) = some r := by
          intro l
          induction l with
          | nil => intro i t0 hk hh; exact hk _ hh
          | cons x l ih =>
            intro i t0 hk hh
            have e1 : argT (x :: l) i t0 (fun t => execK V fn.ntmps ⟨P, ck, cq, max fn.ntmps args.length⟩ c t h nx (some []) (normK orc ⟨P, ck, cq, max fn.ntmps args.length⟩ fn k) (retK orc ⟨P, ck, cq, max fn.ntmps args.length⟩ fn k)) = argT l (i + 1) (t0.set i x) (fun t => execK V fn.ntmps ⟨P, ck, cq, max fn.ntmps args.length⟩ c t h nx (some []) (normK orc ⟨P, ck, cq, max fn.ntmps args.length⟩ fn k) (retK orc ⟨P, ck, cq, max fn.ntmps args.length⟩ fn k)) := putT_eq _ _ _ _
            have e2 : (argT (x :: l) i t0 fun t => endR P orc cr fn (execC P cr (drawR P cr) c ⟨t, max fn.ntmps args.length, h, nx, some []⟩)) = argT l (i + 1) (t0.set i x) fun t => endR P orc cr fn (execC P cr (drawR P cr) c ⟨t, max fn.ntmps args.length, h, nx, some []⟩) := putT_eq _ _ _ _
            rw [e1] at hh
            rw [e2]
            exact ih _ _ hk hh
        refine key args 0 .leaf (fun t hk => ?_) h3
        have h4 := execK_ok (E := ⟨P, ck, cq, max fn.ntmps args.length⟩) hl hck hV (Nat.le_max_left _ _) c t h nx (some []) _ _ r hk
        cases hx : execC P cr (drawR P cr) c ⟨t, max fn.ntmps args.length, h, nx, some []⟩ with
        | none =>
          have h5 : outK (normK orc ⟨P, ck, cq, max fn.ntmps args.length⟩ fn k) (retK orc ⟨P, ck, cq, max fn.ntmps args.length⟩ fn k) (execC P cr (drawR P cr) c ⟨t, max fn.ntmps args.length, h, nx, some []⟩) = some r := h4
          rw [hx] at h5
          cases h5
        | some q =>
          obtain ⟨y, s⟩ := q
          have h5 : outK (normK orc ⟨P, ck, cq, max fn.ntmps args.length⟩ fn k) (retK orc ⟨P, ck, cq, max fn.ntmps args.length⟩ fn k) (execC P cr (drawR P cr) c ⟨t, max fn.ntmps args.length, h, nx, some []⟩) = some r := h4
          rw [hx] at h5
          have e : s.n = max fn.ntmps args.length := execC_n (fun hd => drawR_n hd) hx
          have es : s = ⟨s.tm, max fn.ntmps args.length, s.h, s.nx, s.ds⟩ := by
            rw [← e]
          rw [es]
          cases y with
          | normal => exact quickEnd_ok (E := ⟨P, ck, cq, max fn.ntmps args.length⟩) hl (.inl rfl) h5
          | ret => exact quickEnd_ok (E := ⟨P, ck, cq, max fn.ntmps args.length⟩) hl (.inr rfl) h5
          | exit id => exact slowEnd_ok (E := ⟨P, ck, cq, max fn.ntmps args.length⟩) hl h5
          | panic v => exact slowEnd_ok (E := ⟨P, ck, cq, max fn.ntmps args.length⟩) hl h5
theorem ansK_res {x : Option Ans} {r : Ans} (h : ansK resK x = some r) : x = some r := by
  cases x with
  | none => cases h
  | some q => exact h
/-- the lean reckoning says no more than the elder one -/
theorem callK_ok (hV : V.Ok P) : ∀ d, CK (callK P V orc d) (callR P orc (drawR P) d) := by
  intro d
  induction d with
  | zero => intro who args h nx k r hh; cases hh
  | succ d ih =>
    intro who args h nx k r hh
    have h1 : bodyK P V orc (callK P V orc d) (callQ P V orc d) who args h nx k = some r := hh
    exact bodyK_ok hV (fun who args h nx x hx => ansK_res (ih who args h nx resK x hx)) ih h1
theorem callQ_ok (hV : V.Ok P) {d : Nat} {who : Who} {args : List RV} {h : Hp} {nx : Nat} {x : Ans} (hh : callQ P V orc d who args h nx = some x) : callR P orc (drawR P) d who args h nx = some x := ansK_res (callK_ok hV d who args h nx resK x hh)
end
/-! ### the view of a program -/
theorem evens_get {α : Type} : ∀ (l : List α) (n : Nat), (evens l)[n]? = l[2 * n]?
  | [], n => by simp [evens]
  | [a], 0 => by simp [evens]
  | [a], n + 1 => by
    have : [a][2 * (n + 1)]? = none := by
      rw [List.getElem?_eq_none_iff, List.length_singleton]
      omega
    rw [this]
    simp [evens]
  | a :: b :: l, 0 => by simp [evens]
  | a :: b :: l, n + 1 => by
    have e : 2 * (n + 1) = 2 * n + 1 + 1 := by omega
    rw [evens, List.getElem?_cons_succ, e, List.getElem?_cons_succ, List.getElem?_cons_succ]
    exact evens_get l n
theorem odds_get {α : Type} : ∀ (l : List α) (n : Nat), (odds l)[n]? = l[2 * n + 1]?
  | [], n => by simp [odds]
  | [a], n => by
    have : [a][2 * n + 1]? = none := by
      rw [List.getElem?_eq_none_iff, List.length_singleton]
      omega
    rw [this]
    simp [odds]
  | a :: b :: l, 0 => by simp [odds]
  | a :: b :: l, n + 1 => by
    have e : 2 * (n + 1) + 1 = 2 * n + 1 + 1 + 1 := by omega
    rw [odds, List.getElem?_cons_succ, e, List.getElem?_cons_succ, List.getElem?_cons_succ]
    exact odds_get l n
theorem mkT_get {α : Type} : ∀ (d : Nat) (l : List α) (n : Nat) (x : α), (mkT d l).get n = some x → l[n]? = some x
  | 0, l, n, x, h => by cases h
  | d + 1, [], n, x, h => by cases h
  | d + 1, a :: l, 0, x, h => h
  | d + 1, a :: l, m + 1, x, h => by
    have h1 : (bif Nat.beq (m + 1) 0 then some a else bif Nat.beq ((m + 1) % 2) 1 then (mkT d (evens l)).get ((m + 1) / 2) else (mkT d (odds l)).get ((m + 1) / 2 - 1)) = some x := h
    rw [bnz, cond_false] at h1
    rw [List.getElem?_cons_succ]
    rcases two_cases m with ⟨h2, h3, h4⟩ | ⟨h2, h3, h4⟩
    · rw [b1 h3, cond_true, h4] at h1
      have := mkT_get d _ _ _ h1
      rw [evens_get] at this
      have e : 2 * (m / 2) = m := by omega
      rwa [e] at this
    · rw [b0 h3, cond_false, h4] at h1
      have := mkT_get d _ _ _ h1
      rw [odds_get] at this
      have e : 2 * (m / 2) + 1 = m := by omega
      rwa [e] at this
theorem viewOf_ok (P : Program) : (viewOf P).Ok P := by
  constructor
  · intro t i h
    have h1 : getF (mkT 13 P.types.toList) t = some i := h
    rw [getF_eq] at h1
    have := mkT_get _ _ _ _ h1
    rw [Array.getElem?_toList] at this
    unfold Tables.info?
    rw [if_pos (Array.getElem?_eq_some_iff.1 this).1]
    exact this
  · intro f fn h
    have h1 : getF (mkT 13 P.funcs.toList) f = some fn := h
    rw [getF_eq] at h1
    have := mkT_get _ _ _ _ h1
    rw [Array.getElem?_toList] at this
    exact this
/-- calls, reckoned quickly -/
theorem quick_sound {P : Program} {orc : CallR} (horc : CallOK P orc) (d : Nat) : CallOK P (callQ P (viewOf P) orc d) := by
  have h := calls_sound horc d
  exact ⟨fun f args h0 nx re h' nx' hc => h.1 _ _ _ _ _ _ _ (callQ_ok (viewOf_ok P) hc), fun G args h0 nx re h' nx' hc => h.2 _ _ _ _ _ _ _ (callQ_ok (viewOf_ok P) hc)⟩
theorem calls_true_q {P : Program} {orc : CallR} (horc : CallOK P orc) {d : Nat} {f : FuncId} {args : List RV} (hr : saysTrue (callQ P (viewOf P) orc d (.fn f) args .leaf 0) = true) (env : Nat → Value) (vs : List Value) (hv : RL (fun _ _ => none) env args vs) (w : World) (ht : TabW w) (he : EnvP (fun q => w.heap[q]?) env) :
    Calls P f vs.toArray w fun e w' => e = .returned (.bool true) ∧ Below w.heap.size w w' := by
  obtain ⟨h', nx', hx⟩ := of_saysTrue hr
  refine calls_of horc (callQ_ok (viewOf_ok P) hx) env vs hv w ht he _ fun g v w' k1 _ k3 => ?_
  cases k1
  exact ⟨rfl, k3⟩
end Go.Proofs.YtlimlmjljjmcpaaGreatDoor.Ax
