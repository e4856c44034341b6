/-
  The reckoning of functions on relative values.
-/
import Derived.Test.YthkhdbfohaaojaaGreatDoorAxDef
namespace Go.Proofs.YthkhdbfohaaojaaGreatDoor.Ax
open Go.RowKit
set_option linter.unusedVariables false
set_option linter.unusedSimpArgs false

/-- the cells of what is appended or copied: how many elements, and their cells -/
def srcR {β : Type} (h : Hp) (sz : Nat) (x : RV) (k : Nat → List RV → Option β) : Option β :=
  match x with
  | .sl G e off m s => bif Nat.beq s sz then (match cellsAt h G e with
    | some (_, _, _, cs) => takeO (m * s) (dropR cs off) fun l => bif l.all oneR then k m l else none
    | none => none) else none
  | .str l => bif Nat.beq sz 1 then forceRs (l.map fun n => .lit (.int .u8 (.ofNat n))) fun cs => k l.length cs else none
  | .s0 _ _ _ => k 0 []
  | .se => k 0 []
  | .lit (.slice none 0 0) => k 0 []
  | _ => none
def isSlice : RV → Bool
  | .sl _ _ _ _ _ | .s0 _ _ _ | .se | .lit (.slice none 0 0) => true
  | _ => false
def srcKind (P : Program) (tx : TypeId) : Bool :=
  match P.underlying tx with
  | some (.slice _) => true
  | some .string => true
  | _ => false
def isEmptyS : RV → Bool
  | .s0 _ _ _ => true
  | .se => true
  | .lit (.slice none 0 0) => true
  | _ => false
def isStr : RV → Bool
  | .str _ => true
  | _ => false
def appendR (P : Program) (h : Hp) (nx : Nat) (ty tx : TypeId) (r x : RV) : Option (RV × Hp × Nat) :=
  match P.underlying ty with
  | some (.slice e) => match P.info? e with
    | some i => match i.zero with
      | some z => bif Nat.beq z.cells.size i.size && Nat.ble 1 i.size && isSlice r && srcKind P tx then srcR h i.size x fun m news =>
          bif Nat.beq m 0 then some (r, h, nx) else match r with
          | .sl G mb 0 n s => bif Nat.beq s i.size && Nat.ble ((n + m) * i.bytes) 1000000000 && Nat.ble (n + m) 1000000000 then (match h.get G with
            | some (.cells el false nxe mem) => bif Nat.beq el e then (match findM mem mb with
              | some cs => takeO (n * s) cs fun pre => appO pre news fun all => keepM (n * s) mem 3 fun r' => forceN (nxe + 1) fun nxe' => forceN (n + m) fun len =>
                  putT h G (.cells e false nxe' ((nxe, all) :: r')) fun h' => some (.sl G nxe 0 len s, h', nx)
              | none => none) else none
            | _ => none) else none
          | .lit _ | .s0 _ _ _ => bif Nat.ble (m * i.bytes) 1000000000 && Nat.ble m 1000000000 then forceN m fun len => forceN (nx + 1) fun nx' => putT h nx (.cells e false 1 [(0, news)]) fun h' => some (.sl nx 0 0 len i.size, h', nx') else none
          | _ => none
        else none
      | none => none
    | none => none
  | _ => none
def copyR (P : Program) (h : Hp) (ty : TypeId) (r x : RV) : Option (RV × Hp) :=
  match P.underlying ty with
  | some (.slice e) => match P.info? e with
    | some i => match r with
      | .sl G mb off n s => bif Nat.beq s i.size && Nat.ble 1 s then srcR h s x fun m news =>
          forceN (min m n) fun k => bif Nat.beq k 0 then some (.lit (.int .i64 (.ofNat 0)), h) else takeO (k * s) news fun l => (match cellsAt h G mb with
          | some (el, z, nxe, cs) => overO cs off l fun cs' => putT h G (.cells el z nxe [(mb, cs')]) fun h' => some (.lit (.int .i64 (.ofNat k)), h')
          | none => none) else none
      | r => bif isEmptyS r && (isSlice x || isStr x) then some (.lit (.int .i64 (.ofNat 0)), h) else none
    | none => none
  | _ => none
def zeroOk (i : TypeInfo) : Bool := match i.zero with
  | some z => Nat.beq z.cells.size i.size
  | none => false
def clearR (P : Program) (h : Hp) (ty : TypeId) (r : RV) : Option Hp :=
  match P.underlying ty, r with
  | some (.slice e), .sl G mb off n s => match P.info? e, zeroCs P e n, cellsAt h G mb with
    | some i, some z, some (el, fz, nxe, cs) => bif Nat.beq s i.size && Nat.ble 1 n && zeroOk i && z.all oneR then overO cs off z fun cs' => putT h G (.cells el fz nxe [(mb, cs')]) some else none
    | _, _, _ => none
  | some (.slice e), .s0 _ _ _ => some h
  | some (.slice e), .se => some h
  | some (.slice e), .lit (.slice none 0 0) => some h
  | _, _ => none
/-! ### maps -/
def keyEq : RV → RV → Option Bool
  | .str l, .str m => some (eqLN l m)
  | .lit (.int j (.ofNat a)), .lit (.int k (.ofNat b)) => if j = k then some (Nat.beq a b) else none
  | .lit (.bool a), .lit (.bool b) => some (a == b)
  | _, _ => none
def flatKey (d : TypeDesc) (r : RV) : Bool := match d, r with
  | .string, .str _ => true
  | .int _, .lit (.int _ _) => true
  | .bool, .lit (.bool _) => true
  | _, _ => false
def findE : List (RV × RV × Nat) → RV → Option (Option RV)
  | [], _ => some none
  | (k, v, _) :: r, x => match keyEq x k with
    | some true => some (some v)
    | some false => findE r x
    | none => none
def setE {β : Type} : List (RV × RV × Nat) → RV → RV → Nat → (List (RV × RV × Nat) → Bool → Option β) → Option β
  | [], x, v, ck, f => f [(x, v, ck)] true
  | (k, u, b) :: r, x, v, ck, f => match keyEq x k with
    | some true => f ((x, v, b) :: r) false
    | some false => setE r x v ck fun r' nw => f ((k, u, b) :: r') nw
    | none => none
def mapSetR (P : Program) (h : Hp) (ty : TypeId) (m k v : RV) : Option Hp :=
  match P.underlying ty, m with
  | some (.map kt et), .mp G => match P.underlying kt, h.get G with
    | some d, some (.mp es ck) => bif flatKey d k && oneR v then setE es k v ck fun es' nw => (match nw with
      | true => forceN (ck + 1) fun ck' => putT h G (.mp es' ck') some
      | false => putT h G (.mp es' ck) some) else none
    | _, _ => none
  | _, _ => none
def delE {β : Type} : List (RV × RV × Nat) → RV → (List (RV × RV × Nat) → Option β) → Option β
  | [], _, f => f []
  | (k, u, b) :: r, x, f => match keyEq x k with
    | some true => f r
    | some false => delE r x fun r' => f ((k, u, b) :: r')
    | none => none
def delR (P : Program) (h : Hp) (ty : TypeId) (m k : RV) : Option Hp :=
  match P.underlying ty, m with
  | some (.map kt et), .mp G => match P.underlying kt, h.get G with
    | some d, some (.mp es ck) => bif flatKey d k then delE es k fun es' => putT h G (.mp es' ck) some else none
    | _, _ => none
  | _, _ => none
def zero1 (P : Program) (t : TypeId) : Option RV :=
  match P.info? t with
  | some i => match i.zero with
    | some z => forceV z some
    | none => none
  | none => none
def entriesR (h : Hp) (m : RV) : Option (List (RV × RV × Nat)) :=
  match m with
  | .mp G => match h.get G with
    | some (.mp es _) => some es
    | _ => none
  | .lit (.map none) => some []
  | _ => none
def foundR (z : RV) (ok : Bool) : Option RV → RV
  | some v => match ok with
    | true => .tup [v, .lit (.bool true)]
    | false => v
  | none => match ok with
    | true => .tup [z, .lit (.bool false)]
    | false => z
def lookupR (P : Program) (h : Hp) (ty : TypeId) (m k : RV) (ok : Bool) : Option RV :=
  match P.underlying ty with
  | some (.map kt et) => match P.underlying kt, zero1 P et with
    | some d, some z => bif flatKey d k then (match entriesR h m with
      | some es => match findE es k with
        | some r => some (foundR z ok r)
        | none => none
      | none => none) else none
    | _, _ => none
  | _ => none
inductive Cls where
  | pure | read | alloc | eff
  deriving DecidableEq
def clsR (P : Program) (o : Oper) : Cls :=
  match o.op with
  | .load _ _ | .lookup _ _ _ _ => .read
  | .alloc _ | .box _ _ | .buildSlice _ _ _ | .makeSlice _ _ _ => .alloc
  | .convert src dst _ => match P.underlying src, P.underlying dst with
    | some .string, some (.slice _) => .alloc
    | some (.slice _), _ => .read
    | some .unsafePointer, _ => .read
    | _, some .unsafePointer => .read
    | _, _ => .pure
  | .store _ _ _ | .mapUpdate _ _ _ _ | .makeMap _ _ | .mapEntry _ _ _ | .entryStore _ _ _ _ | .insert _ _ _ _ | .range _ _ | .next _ _ | .entry _ => .eff
  | .call ⟨.builtin b, _, argTypes⟩ => match b with
    | .min | .max | .unsafeSliceData => .pure
    | .len => match argTypes.toList with
      | [ty] => match P.underlying ty with
        | some (.map _ _) => .read
        | _ => .pure
      | _ => .pure
    | _ => .eff
  | .call _ => .eff
  | _ => .pure
/-- an address as an unsafe pointer, and back -/
def unsafeR (P : Program) (h : Hp) (src dst : TypeId) (r : RV) : Option RV :=
  match P.underlying src, P.underlying dst, r with
  | some (.pointer el), some .unsafePointer, .ptr G e off => match P.info? el, cellsAt h G e with
    | some i, some (_, _, _, cs) => match nthR cs off with
      | some _ => bif Nat.ble 1 i.size then some (.ptr G e off) else none
      | none => none
    | _, _ => none
  | some .unsafePointer, some (.pointer u), .ptr G e off => match P.info? u, cellsAt h G e with
    | some i, some (el, _, _, cs) => bif liesAt P P.depth el (cs.length / P.cellsOf el) off u 1 then some (.ptr G e off) else none
    | _, _ => none
  | some (.pointer _), some .unsafePointer, .lit (.pointer none) => some (.lit (.pointer none))
  | some .unsafePointer, some (.pointer _), .lit (.pointer none) => some (.lit (.pointer none))
  | _, _, _ => none
def byteL {β : Type} : List RV → (List Nat → Option β) → Option β
  | [], k => k []
  | .lit (.int .u8 (.ofNat n)) :: l, k => bif Nat.ble (n + 1) 256 then byteL l fun r => k (n :: r) else none
  | _ :: _, _ => none
/-- bytes as a string that shares them: the block is forgotten -/
def unsafeStrR (P : Program) (h : Hp) (ty : TypeId) (r : RV) (n : Nat) : Option (RV × Hp) :=
  match n, r with
  | 0, .ptr _ _ _ => some (.str [], h)
  | 0, .lit (.pointer none) => some (.str [], h)
  | n + 1, .ptr G e 0 => match P.underlying ty with
    | some (.pointer u) => match h.get G with
      | some (.cells el false nxe mem) => match findM mem e with
        | some cs => bif Nat.beq el u && Nat.beq (P.cellsOf el) 1 && Nat.ble (n + 1) 1000000 then takeO (n + 1) cs fun l => byteL l fun b => putT h G (.cells el false nxe []) fun h' => some (.str b, h') else none
        | none => none
      | _ => none
    | _ => none
  | _, _ => none
/-- bytes as a string -/
def bytesR (h : Hp) (r : RV) : Option RV :=
  match r with
  | .sl G e off n 1 => match cellsAt h G e with
    | some (_, _, _, cs) => takeO n (dropR cs off) fun l => byteL l fun b => some (.str b)
    | none => none
  | .s0 _ _ _ => some (.str [])
  | .se => some (.str [])
  | .lit (.slice none 0 0) => some (.str [])
  | _ => none
def readR (P : Program) (t : Tr RV) (h : Hp) (o : Oper) : Option RV :=
  match o.op with
  | .load ty x => loadR P h ty (evalR t x)
  | .convert src dst x => match P.underlying src, P.underlying dst with
    | some (.slice e), some .string => match P.underlying e with
      | some (.int .u8) => bytesR h (evalR t x)
      | _ => none
    | _, _ => unsafeR P h src dst (evalR t x)
  | .lookup ty m k ok => lookupR P h ty (evalR t m) (evalR t k) ok
  | .call ⟨.builtin .len, args, argTypes⟩ => match args.toList with
    | [x] => match argTypes.toList with
      | [ty] => match P.underlying ty with
        | some (.map _ _) => match evalR t x with
          | .mp G => match h.get G with
            | some (.mp es _) => forceN es.length fun n => some (.lit (.int .i64 (.ofNat n)))
            | _ => none
          | .lit (.map none) => some (.lit (.int .i64 (.ofNat 0)))
          | _ => none
        | _ => none
      | _ => none
    | _ => none
  | _ => none
/-- how a call ends -/
inductive RE where
  | ret (r : RV)
  | pan (r : RV)
/-- a function, or what a range over a function hands out -/
inductive Who where
  | fn (f : FuncId)
  | yld (G : Nat)
abbrev CallR := Who → List RV → Hp → Nat → Option (RE × Hp × Nat)
def targetR (r : RV) (args : List RV) : Option (FuncId × List RV) :=
  match r with
  | .lit (.func (.func f) first captured) => match first.toList, captured.toList with
    | [], [] => some (f, args)
    | _, _ => none
  | .clo f a l => appO args l fun r => appO a r fun all => some (f, all)
  | _ => none
/-- functions without a body: of values known whole by the model's own row; or they hand back what they are handed -/
def externR (P : Program) (f : FuncId) (args : List RV) : Option RV :=
  match P.funcs[f]? with
  | some fn => match fn.body with
    | some _ => none
    | none => match litL args with
      | some vs => match evalP P (callFunc f vs.toArray) with
        | some (.value v) => forceV v some
        | _ => none
      | none => match args with
        | [r] => if fn.name == "internal/abi.NoEscape" && (Extern.findNext fn).isNone then some r else none
        | _ => none
  | none => none
/-- a map's copy, by the model's own row -/
def cloneR (P : Program) (f : FuncId) (args : List RV) (h : Hp) (nx : Nat) : Option (RE × Hp × Nat) :=
  match P.funcs[f]? with
  | some fn => match fn.body with
    | some _ => none
    | none => match args with
      | [.ifc t (.mp G)] => match h.get G with
        | some (.mp es ck) => if fn.name == "maps.clone" && (Extern.findNext fn).isNone then forceN (nx + 1) fun nx' => putT h nx (.mp es ck) fun h' => some (.ret (.ifc t (.mp nx)), h', nx') else none
        | _ => none
      | _ => none
  | none => none
def yldR : RV → Option Nat
  | .yld G => some G
  | _ => none
def unitR (x : Option Hp) (nx : Nat) : Option (RE × Hp × Nat) :=
  match x with
  | some h => some (.ret (.lit undef), h, nx)
  | none => none
def leftE (seen : List Nat) (es : List (RV × RV × Nat)) : List (RV × RV × Nat) := es.filter fun e => !(seen.contains e.2.2)
/-- the entry that an iterator met last -/
def entryR (seen : List Nat) (stepped : Nat) (es : List (RV × RV × Nat)) (ck : Nat) : Option RV :=
  bif Nat.beq ck stepped then match seen.getLast? with
    | some b => match es.find? fun e => e.2.2 == b with
      | some (k, v, _) => some (.tup [k, v])
      | none => none
    | none => none else none
/-- a step of an iterator over a map of which at most one entry is left -/
def nextMR (h : Hp) (nx G m since : Nat) (seen : List Nat) (last : Nat) (es : List (RV × RV × Nat)) (ck : Nat) : Option (RE × Hp × Nat) :=
  bif !seen.isEmpty && !es.isEmpty && es.all (fun e => decide (last ≤ e.2.2)) then none else match leftE seen es with
    | [] => some (.ret (.tup [.lit (.bool false)]), h, nx)
    | [(k, v, b)] => bif Nat.ble (b + 1) since then putT h G (.ot (.mi m since (seen ++ [b]) ck)) fun h' => some (.ret (.tup [.lit (.bool true), k, v]), h', nx) else none
    | _ => none
def effR (P : Program) (call : CallR) (t : Tr RV) (h : Hp) (nx : Nat) (o : Oper) : Option (RE × Hp × Nat) :=
  match o.op with
  | .store ty a x => unitR (storeR P h ty (evalR t a) (evalR t x) some) nx
  | .mapUpdate ty m k x => unitR (mapSetR P h ty (evalR t m) (evalR t k) (evalR t x)) nx
  | .insert ty m k x => unitR (mapSetR P h ty (evalR t m) (evalR t k) (evalR t x)) nx
  | .makeMap ty r => match r with
    | none => forceN (nx + 1) fun nx' => putT h nx (.mp [] 0) fun h' => some (.ret (.mp nx), h', nx')
    | some _ => none
  | .range ty x => match P.underlying ty, evalR t x with
    | some .string, .str l => forceN (nx + 1) fun nx' => putT h nx (.si l l 0) fun h' => some (.ret (.ptr nx 0 0), h', nx')
    | some (.map _ _), .mp G => match h.get G with
      | some (.mp _ ck) => forceN (nx + 1) fun nx' => putT h nx (.ot (.mi G ck [] ck)) fun h' => some (.ret (.ptr nx 0 0), h', nx')
      | _ => none
    | _, _ => none
  | .entry it => match evalR t it with
    | .ptr G 0 0 => match h.get G with
      | some (.ot (.mi m _ seen stepped)) => match h.get m with
        | some (.mp es ck) => match entryR seen stepped es ck with
          | some r => some (.ret r, h, nx)
          | none => none
        | _ => none
      | _ => none
    | _ => none
  | .next it false => match evalR t it with
    | .ptr G 0 0 => match h.get G with
      | some (.ot (.mi m since seen last)) => match h.get m with
        | some (.mp es ck) => nextMR h nx G m since seen last es ck
        | _ => none
      | _ => none
    | _ => none
  | .next it true => match evalR t it with
    | .ptr G 0 0 => match h.get G with
      | some (.si s [] pos) => some (.ret (.tup [.lit (.bool false)]), h, nx)
      | some (.si s (b :: rest) pos) => bif Nat.ble (b + 1) 128 then forceN (pos + 1) fun pos' => putT h G (.si s rest pos') fun h' => some (.ret (.tup [.lit (.bool true), .lit (.int .i64 (.ofNat pos)), .lit (.int .i32 (.ofNat b))]), h', nx) else none
      | _ => none
    | _ => none
  | .call ⟨.builtin b, args, argTypes⟩ => match b, args.toList, argTypes.toList with
    | .append, [r, x], [ty, tx] => match appendR P h nx ty tx (evalR t r) (evalR t x) with
      | some (r, h', nx') => some (.ret r, h', nx')
      | none => none
    | .unsafeString, [x, n], [ty, _] => match evalR t n with
      | .lit (.int .i64 (.ofNat n)) => match unsafeStrR P h ty (evalR t x) n with
        | some (r, h') => some (.ret r, h', nx)
        | none => none
      | _ => none
    | .copy, [r, x], ty :: _ => match copyR P h ty (evalR t r) (evalR t x) with
      | some (r, h') => some (.ret r, h', nx)
      | none => none
    | .delete, [m, k], ty :: _ => match delR P h ty (evalR t m) (evalR t k) with
      | some h' => some (.ret (.lit (.tuple #[])), h', nx)
      | none => none
    | .clear, [r], ty :: _ => match clearR P h ty (evalR t r) with
      | some h' => some (.ret (.lit (.tuple #[])), h', nx)
      | none => none
    | _, _, _ => none
  | .call ⟨.value f, args, _⟩ => match yldR (evalR t f) with
    | some G => call (.yld G) (args.toList.map (evalR t)) h nx
    | none => match targetR (evalR t f) (args.toList.map (evalR t)) with
      | some (f, as) => match externR P f as with
        | some r => some (.ret r, h, nx)
        | none => match cloneR P f as h nx with
          | some r => some r
          | none => call (.fn f) as h nx
      | none => none
  | _ => none
/-- what is to be done at a function's end: a deferred call; a block of deferred calls to be shut -/
inductive DC where
  | call (f : FuncId) (as : List RV)
  | mark (G : Nat)
structure St where
  tm : Tr RV
  n : Nat
  h : Hp
  nx : Nat
  /-- the deferred calls, the last first; none: in a round of a range over a function -/
  ds : Option (List DC)
inductive RX where
  | normal
  | exit (id : Nat)
  | ret
  | panic (v : RV)
def wantedR (t : Tr RV) (ops : Array Oper) (o : Oper) : Option Bool :=
  match o.guard with
  | none => some true
  | some (j, want) => match (ops[j]?).bind (·.dst) with
    | none => some false
    | some d => match t.get d with
      | none => some false
      | some (.lit (.bool b)) => match b, want with
        | true, true => some true
        | false, false => some true
        | _, _ => some false
      | some (.lit (.tuple _)) => some false
      | _ => none
def putR {β : Type} (t : Tr RV) (n : Nat) (d : Option Tmp) (r : RV) (k : Tr RV → Option β) : Option β :=
  match d with
  | none => k t
  | some d => bif Nat.ble (d + 1) n then putT t d r k else none
/-- one operation -/
def opR (P : Program) (call : CallR) (t : Tr RV) (h : Hp) (nx : Nat) (o : Oper) : Option (RE × Hp × Nat) :=
  match clsR P o with
  | .pure => match pureR P t o with
    | some r => some (.ret r, h, nx)
    | none => none
  | .read => match readR P t h o with
    | some r => some (.ret r, h, nx)
    | none => none
  | .alloc => match allocR P t nx o with
    | some (r, ob) => forceN (nx + 1) fun nx' => putT h nx ob fun h' => some (.ret r, h', nx')
    | none => none
  | .eff => effR P call t h nx o
def panicR (t : Tr RV) (o : Oper) : Option RV :=
  match o.op with
  | .panic x => match evalR t x with
    | .ifc ty v => some (.ifc ty v)
    | .lit (.iface ty v) => some (.lit (.iface ty v))
    | _ => none
  | _ => none
/-- a deferred call: whose, with what -/
def deferR (t : Tr RV) (o : Oper) : Option (FuncId × List RV) :=
  match o.op with
  | .defer ⟨.value f, args, _⟩ => targetR (evalR t f) (args.toList.map (evalR t))
  | _ => none
def runOps (P : Program) (call : CallR) (ops : Array Oper) : List Oper → St → Option (RX × St)
  | [], s => some (.normal, s)
  | o :: rest, s => match wantedR s.tm ops o with
    | some true => match panicR s.tm o with
      | some v => some (.panic v, s)
      | none => match opR P call s.tm s.h s.nx o with
        | some (.ret r, h', nx') => putR s.tm s.n o.dst r fun t' => runOps P call ops rest ⟨t', s.n, h', nx', s.ds⟩
        | some (.pan v, h', nx') => some (.panic v, ⟨s.tm, s.n, h', nx', s.ds⟩)
        | none => match deferR s.tm o with
          | some (f, as) => match s.ds with
            | some l => putR s.tm s.n o.dst (.lit undef) fun t' => runOps P call ops rest ⟨t', s.n, s.h, s.nx, some (.call f as :: l)⟩
            | none => none
          | none => none
    | some false => putR s.tm s.n o.dst (.lit undef) fun t' => runOps P call ops rest ⟨t', s.n, s.h, s.nx, s.ds⟩
    | none => none
def loopR (body : St → Option (RX × St)) : Nat → St → Option (RX × St)
  | 0, _ => none
  | f + 1, s => match body s with
    | some (.normal, s') => loopR body f s'
    | r => r
/-- a range over a function ends -/
def endLoopR (G : Nat) (s : St) (ds : List DC) (h : Hp) (nx : Nat) : Option (RX × St) :=
  match h.get G with
  | some (.ot (.lp st pend tm n ps assign body)) => match st with
    | .busy => none
    | _ => putT h G (.ot (.lp .exhausted pend tm n ps assign body)) fun h' => match pend with
      | none => some (.normal, ⟨s.tm, s.n, h', nx, some ds⟩)
      | some .ret => some (.ret, ⟨s.tm, s.n, h', nx, some ds⟩)
      | some (.exit id) => some (.exit id, ⟨s.tm, s.n, h', nx, some ds⟩)
      | _ => none
  | _ => none
/-- a range over a function, in no round -/
def loopFR (call : CallR) (g : Operand) (ps : Array Tmp) (assign body : Code) (s : St) : Option (RX × St) :=
  match s.ds with
  | none => none
  | some l => forceN (s.nx + 1) fun n1 => forceN (n1 + 1) fun n2 => match targetR (evalR s.tm g) [.yld n1] with
    | none => none
    | some (f, as) => putT s.h s.nx (.ot (.df true)) fun h1 => putT h1 n1 (.ot (.lp .ready none s.tm s.n ps assign body)) fun h2 => match call (.fn f) as h2 n2 with
      | some (.ret _, h3, n3) => endLoopR n1 s (.mark s.nx :: l) h3 n3
      | _ => none
/-- drawn regions: by another reckoning -/
abbrev DrawR := Array Oper → St → Option (RX × St)
def execC (P : Program) (call : CallR) (draw : DrawR) : Code → St → Option (RX × St)
  | .skip, s => some (.normal, s)
  | .seq a b, s => match execC P call draw a s with
    | some (.normal, s') => execC P call draw b s'
    | r => r
  | .cond c a b, s => match evalR s.tm c with
    | .lit (.bool true) => execC P call draw a s
    | .lit (.bool false) => execC P call draw b s
    | _ => none
  | .block id c, s => match execC P call draw c s with
    | some (.exit id', s') => bif Nat.beq id' id then some (.normal, s') else some (.exit id', s')
    | r => r
  | .loop c, s => loopR (execC P call draw c) 1000000 s
  | .exit id, s => some (.exit id, s)
  | .label _, s => some (.normal, s)
  | .ret, s => some (.ret, s)
  | .region _ ops false, s => runOps P call ops ops.toList s
  | .region _ ops true, s => draw ops s
  | .rangeFunc g ps assign body, s => loopFR call g ps assign body s
  | _, _ => none
def resultR (P : Program) (s : St) : ResultVar → Option RV
  | .tmp t => some (evalR s.tm (.tmp t))
  | .cell a ty => loadR P s.h ty (evalR s.tm (.tmp a))
def resultsR (P : Program) (s : St) : List ResultVar → Option (List RV)
  | [] => some []
  | x :: l => match resultR P s x with
    | some r => match resultsR P s l with
      | some rs => some (r :: rs)
      | none => none
    | none => none
def oneOf : List RV → RV
  | [r] => r
  | l => .tup l
def argT {β : Type} : List RV → Nat → Tr RV → (Tr RV → β) → β
  | [], _, t, k => k t
  | r :: l, i, t, k => putT t i r fun t' => argT l (i + 1) t' k
def funcR (P : Program) (f : FuncId) : Option (Func × Code) :=
  match P.funcs[f]? with
  | some fn => if fn.name == "runtime.NumGoroutine" then none else match fn.body with
    | some c => some (fn, c)
    | none => none
  | none => none
def setPs {β : Type} : List Tmp → List RV → Nat → Tr RV → (Tr RV → Option β) → Option β
  | [], [], _, t, k => k t
  | p :: ps, a :: as, n, t, k => bif Nat.ble (p + 1) n then putT t p a fun t' => setPs ps as n t' k else none
  | _, _, _, _, _ => none
def beginR {β : Type} (G : Nat) (h : Hp) (k : Hp → Option β) : Option β :=
  match h.get G with
  | some (.ot (.lp .ready pend tm n ps assign body)) => putT h G (.ot (.lp .busy pend tm n ps assign body)) k
  | _ => none
def endRoundR (G : Nat) (jump : Option Code) (h : Hp) (nx : Nat) : Option (RE × Hp × Nat) :=
  match h.get G with
  | some (.ot (.lp _ _ tm n ps assign body)) => match jump with
    | none => putT h G (.ot (.lp .ready none tm n ps assign body)) fun h' => some (.ret (.lit (.bool true)), h', nx)
    | some c => putT h G (.ot (.lp .done (some c) tm n ps assign body)) fun h' => some (.ret (.lit (.bool false)), h', nx)
  | _ => none
def bodyEndR (G : Nat) : Option (RX × St) → Option (RE × Hp × Nat)
  | some (.normal, s) => endRoundR G none s.h s.nx
  | some (.ret, s) => endRoundR G (some .ret) s.h s.nx
  | some (.exit id, s) => endRoundR G (some (.exit id)) s.h s.nx
  | _ => none
def assignedR (G : Nat) (exec : St → Option (RX × St)) : Option (RX × St) → Option (RE × Hp × Nat)
  | some (.normal, s) => beginR G s.h fun h1 => bodyEndR G (exec ⟨s.tm, s.n, h1, s.nx, none⟩)
  | _ => none
/-- a round of a range over a function -/
def roundR (P : Program) (call : CallR) (draw : DrawR) (G : Nat) (args : List RV) (h : Hp) (nx : Nat) : Option (RE × Hp × Nat) :=
  match h.get G with
  | some (.ot (.lp .ready _ tm n ps assign body)) => setPs ps.toList args n tm fun tm' => assignedR G (execC P call draw body) (execC P call draw assign ⟨tm', n, h, nx, none⟩)
  | _ => none
/-- the deferred calls, at a function's end -/
def leaveR (orc call : CallR) : List DC → Hp → Nat → Option (Hp × Nat)
  | [], h, nx => some (h, nx)
  | .call f as :: ds, h, nx => match orc (.fn f) as h nx with
    | some _ => none
    | none => match call (.fn f) as h nx with
      | some (.ret _, h', nx') => leaveR orc call ds h' nx'
      | _ => none
  | .mark G :: ds, h, nx => match h.get G with
    | some (.ot (.df true)) => putT h G (.ot (.df false)) fun h' => leaveR orc call ds h' nx
    | _ => none
def wentR (P : Program) (fn : Func) (s : St) : Option (Hp × Nat) → Option (RE × Hp × Nat)
  | some (h, nx) => match resultsR P ⟨s.tm, s.n, h, nx, s.ds⟩ fn.results.toList with
    | some rs => some (.ret (oneOf rs), h, nx)
    | none => none
  | none => none
def byeR (P : Program) (orc call : CallR) (fn : Func) (s : St) : Option (List DC) → Option (RE × Hp × Nat)
  | some l => wentR P fn s (leaveR orc call l s.h s.nx)
  | none => none
/-- a function's end -/
def endR (P : Program) (orc call : CallR) (fn : Func) : Option (RX × St) → Option (RE × Hp × Nat)
  | some (.normal, s) => byeR P orc call fn s s.ds
  | some (.ret, s) => byeR P orc call fn s s.ds
  | some (.panic v, s) => match s.ds with
    | some [] => some (.pan v, s.h, s.nx)
    | _ => none
  | _ => none
/-- a function's run, or a round's; the calls in it are known -/
def bodyR (P : Program) (orc call : CallR) (draw : DrawR) : CallR
  | .fn f, args, h, nx => match funcR P f with
    | some (fn, c) => match orc (.fn f) args h nx with
      | some r => some r
      | none => argT args 0 .leaf fun t => endR P orc call fn (execC P call draw c ⟨t, max fn.ntmps args.length, h, nx, some []⟩)
    | none => none
  | .yld G, args, h, nx => roundR P call draw G args h nx
def callR (P : Program) (orc : CallR) (draw : CallR → DrawR) : Nat → CallR
  | 0, _, _, _, _ => none
  | d + 1, who, args, h, nx => bodyR P orc (callR P orc draw d) (draw (callR P orc draw d)) who args h nx
end Go.Proofs.YthkhdbfohaaojaaGreatDoor.Ax
