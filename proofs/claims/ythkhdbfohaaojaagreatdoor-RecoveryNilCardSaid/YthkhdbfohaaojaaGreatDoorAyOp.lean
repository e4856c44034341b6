/-
  The lean reckoning of one operation is the elder one's.
-/
import Derived.Test.YthkhdbfohaaojaaGreatDoorAyTree
set_option linter.unusedVariables false
set_option linter.unusedSimpArgs false
namespace Go.Proofs.YthkhdbfohaaojaaGreatDoor.Ax
open Go Go.RowKit

theorem kIdx_inj {a b : IntKind} (h : Nat.beq (kIdx a) (kIdx b) = true) : a = b := by
  cases a <;> cases b <;> first | rfl | cases h
theorem wrap_lim {d : IntKind} {n : Nat} (h : n < limK d) : d.wrap (n : Int) = (n : Int) := by
  cases d <;> simp only [limK] at h <;> simp only [IntKind.wrap, IntKind.bits, IntKind.signed, Bool.true_and, Bool.false_and] <;> (try rw [if_neg (by simp; omega)]) <;> (try simp) <;> omega
/-- what a quick call says, the call says -/
def CK (callK : CallK) (callR0 : CallR) : Prop := ∀ who args h nx k r, callK who args h nx k = some r → ansK k (callR0 who args h nx) = some r
section
variable {P : Program} {V : PV} {gen : Option Ans} {r : Ans}
theorem add_ok {x y : RV} {k : RV → Option Ans} (hh : addK x y k gen = some r) : gen = some r ∨ ∃ q, (∀ ty a b, binR P .add ty a b x y = some q) ∧ k q = some r := by
  rcases natK_some hh with e | ⟨d1, n, rfl, hh1⟩
  · exact .inl e
  rcases natK_some hh1 with e | ⟨d2, m, rfl, hh2⟩
  · exact .inl e
  rcases andK_some hh2 with e | ⟨h1, h2, hh3⟩
  · exact .inl e
  rw [forceNK_eq] at hh3
  obtain rfl := kIdx_inj h1
  have h3 : n + m < limK d1 := Nat.le_of_ble_eq_true h2
  refine .inr ⟨_, fun ty a b => ?_, hh3⟩
  show flatO P (do eqGuard .add ty a b (.int d1 (n : Int)) (.int d1 (m : Int)); binOp .add ty (.int d1 (n : Int)) (.int d1 (m : Int))) = _
  have e : evalP P (do eqGuard .add ty a b (.int d1 (n : Int)) (.int d1 (m : Int)); binOp .add ty (.int d1 (n : Int)) (.int d1 (m : Int))) = some (.int d1 ((n + m : Nat) : Int)) := by
    have hw := wrap_lim h3
    simp only [eqGuard, binOp, Op.intArith, ne_eq, not_true_eq_false, if_false]
    show some (Value.int d1 (d1.wrap ((n : Int) + (m : Int)))) = _
    rw [← hw]
    simp
  unfold flatO
  rw [e]
  simp only [forceV_eq]
  rfl
theorem sub_ok {x y : RV} {k : RV → Option Ans} (hh : subK x y k gen = some r) : gen = some r ∨ ∃ q, (∀ ty a b, binR P .sub ty a b x y = some q) ∧ k q = some r := by
  rcases natK_some hh with e | ⟨d1, n, rfl, hh1⟩
  · exact .inl e
  rcases natK_some hh1 with e | ⟨d2, m, rfl, hh2⟩
  · exact .inl e
  rcases andK_some hh2 with e | ⟨h1, h2, hh3⟩
  · exact .inl e
  rw [forceNK_eq] at hh3
  obtain rfl := kIdx_inj h1
  have h3 : m ≤ n ∧ n < limK d1 := by
    unfold andK at h2
    cases ha : Nat.ble m n with
    | false => rw [ha] at h2; cases h2
    | true =>
      cases hb : Nat.ble (Nat.succ n) (limK d1) with
      | false => rw [ha, hb] at h2; cases h2
      | true => exact ⟨Nat.le_of_ble_eq_true ha, Nat.le_of_ble_eq_true hb⟩
  refine .inr ⟨_, fun ty a b => ?_, hh3⟩
  show flatO P (do eqGuard .sub ty a b (.int d1 (n : Int)) (.int d1 (m : Int)); binOp .sub ty (.int d1 (n : Int)) (.int d1 (m : Int))) = _
  have e : evalP P (do eqGuard .sub ty a b (.int d1 (n : Int)) (.int d1 (m : Int)); binOp .sub ty (.int d1 (n : Int)) (.int d1 (m : Int))) = some (.int d1 ((n - m : Nat) : Int)) := by
    have hw := wrap_lim (d := d1) (n := n - m) (by omega)
    simp only [eqGuard, binOp, Op.intArith, ne_eq, not_true_eq_false, if_false]
    show some (Value.int d1 (d1.wrap ((n : Int) - (m : Int)))) = _
    rw [← hw, Int.ofNat_sub h3.1]
  unfold flatO
  rw [e]
  simp only [forceV_eq]
  rfl
/-- how three answers say what a comparison is -/
def cmpB (lt eq gt : Bool) (n m : Nat) : Bool := if n = m then eq else if n ≤ m then lt else gt
theorem boolKK_eq {β : Type} (b : Bool) (k : RV → β) : boolKK b k = k (.lit (.bool b)) := by cases b <;> rfl
theorem cmpK_some {lt eq gt : Bool} {x y : RV} {k : RV → Option Ans} (hh : cmpK lt eq gt x y k gen = some r) : gen = some r ∨ ∃ d n m, x = .lit (.int d (.ofNat n)) ∧ y = .lit (.int d (.ofNat m)) ∧ k (.lit (.bool (cmpB lt eq gt n m))) = some r := by
  rcases natK_some hh with e | ⟨d1, n, rfl, hh1⟩
  · exact .inl e
  rcases natK_some hh1 with e | ⟨d2, m, rfl, hh2⟩
  · exact .inl e
  rcases ifK_some hh2 with e | ⟨h1, hh3⟩
  · exact .inl e
  obtain rfl := kIdx_inj h1
  refine .inr ⟨d1, n, m, rfl, rfl, ?_⟩
  unfold cmpB
  cases he : Nat.beq n m with
  | true =>
    rw [he] at hh3
    rw [if_pos (Nat.eq_of_beq_eq_true he)]
    have : boolKK eq k = some r := hh3
    rwa [boolKK_eq] at this
  | false =>
    rw [he] at hh3
    rw [if_neg (fun e => by rw [e, Nat.beq_refl] at he; cases he)]
    cases hl : Nat.ble n m with
    | true =>
      rw [hl] at hh3
      rw [if_pos (Nat.le_of_ble_eq_true hl)]
      have : boolKK lt k = some r := hh3
      rwa [boolKK_eq] at this
    | false =>
      rw [hl] at hh3
      rw [if_neg (fun e => by rw [Nat.ble_eq_true_of_le e] at hl; cases hl)]
      have : boolKK gt k = some r := hh3
      rwa [boolKK_eq] at this
theorem flat_cmp {op : BinOp} {ty : TypeId} {a b : Operand} {d1 : IntKind} {n m : Nat} {q : Bool} (e : evalP P (do eqGuard op ty a b (.int d1 (n : Int)) (.int d1 (m : Int)); binOp op ty (.int d1 (n : Int)) (.int d1 (m : Int))) = some (.bool q)) : binR P op ty a b (.lit (.int d1 (.ofNat n))) (.lit (.int d1 (.ofNat m))) = some (.lit (.bool q)) := by
  show flatO P (do eqGuard op ty a b (.int d1 (n : Int)) (.int d1 (m : Int)); binOp op ty (.int d1 (n : Int)) (.int d1 (m : Int))) = _
  unfold flatO
  rw [e]
  simp only [forceV_eq]
  rfl
theorem cmp_lss {ty : TypeId} {a b : Operand} {d1 : IntKind} {n m : Nat} : binR P .lss ty a b (.lit (.int d1 (.ofNat n))) (.lit (.int d1 (.ofNat m))) = some (.lit (.bool (cmpB true false false n m))) := by
  refine flat_cmp ?_
  simp only [eqGuard, binOp, Op.intCmp, ne_eq, not_true_eq_false, if_false]
  show some (Value.bool (decide ((n : Int) < (m : Int)))) = _
  unfold cmpB
  congr 2
  split
  · simp; omega
  · split <;> simp <;> omega
theorem cmp_leq {ty : TypeId} {a b : Operand} {d1 : IntKind} {n m : Nat} : binR P .leq ty a b (.lit (.int d1 (.ofNat n))) (.lit (.int d1 (.ofNat m))) = some (.lit (.bool (cmpB true true false n m))) := by
  refine flat_cmp ?_
  simp only [eqGuard, binOp, Op.intCmp, ne_eq, not_true_eq_false, if_false]
  show some (Value.bool (decide ((n : Int) ≤ (m : Int)))) = _
  unfold cmpB
  congr 2
  split
  · simp; omega
  · split <;> simp <;> omega
theorem cmp_gtr {ty : TypeId} {a b : Operand} {d1 : IntKind} {n m : Nat} : binR P .gtr ty a b (.lit (.int d1 (.ofNat n))) (.lit (.int d1 (.ofNat m))) = some (.lit (.bool (cmpB false false true n m))) := by
  refine flat_cmp ?_
  simp only [eqGuard, binOp, Op.intCmp, ne_eq, not_true_eq_false, if_false]
  show some (Value.bool (decide ((n : Int) > (m : Int)))) = _
  unfold cmpB
  congr 2
  split
  · simp; omega
  · split <;> simp <;> omega
theorem cmp_geq {ty : TypeId} {a b : Operand} {d1 : IntKind} {n m : Nat} : binR P .geq ty a b (.lit (.int d1 (.ofNat n))) (.lit (.int d1 (.ofNat m))) = some (.lit (.bool (cmpB false true true n m))) := by
  refine flat_cmp ?_
  simp only [eqGuard, binOp, Op.intCmp, ne_eq, not_true_eq_false, if_false]
  show some (Value.bool (decide ((n : Int) ≥ (m : Int)))) = _
  unfold cmpB
  congr 2
  split
  · simp; omega
  · split <;> simp <;> omega
theorem cmp_eql {ty : TypeId} {a b : Operand} {d1 : IntKind} {n m : Nat} : binR P .eql ty a b (.lit (.int d1 (.ofNat n))) (.lit (.int d1 (.ofNat m))) = some (.lit (.bool (cmpB false true false n m))) := by
  refine flat_cmp ?_
  simp only [eqGuard, binOp, Op.intCmp, ne_eq, not_true_eq_false, if_false]
  show some (Value.bool ((n : Int) == (m : Int))) = _
  unfold cmpB
  congr 2
  split
  · simp; omega
  · split <;> simp <;> omega
theorem cmp_neq {ty : TypeId} {a b : Operand} {d1 : IntKind} {n m : Nat} : binR P .neq ty a b (.lit (.int d1 (.ofNat n))) (.lit (.int d1 (.ofNat m))) = some (.lit (.bool (cmpB true false true n m))) := by
  refine flat_cmp ?_
  simp only [eqGuard, binOp, Op.intCmp, ne_eq, not_true_eq_false, if_false]
  show some (Value.bool ((n : Int) != (m : Int))) = _
  unfold cmpB
  congr 2
  split
  · simp; omega
  · split <;> simp <;> omega
theorem seqK_some {ne : Bool} {x y : RV} {k : RV → Option Ans} (hh : seqK ne x y k gen = some r) : gen = some r ∨ ∃ l m, x = .str l ∧ y = .str m ∧ k (.lit (.bool (if eqLN l m = true then !ne else ne))) = some r := by
  rcases strK_some hh with e | ⟨l, rfl, hh1⟩
  · exact .inl e
  rcases strK_some hh1 with e | ⟨m, rfl, hh2⟩
  · exact .inl e
  refine .inr ⟨l, m, rfl, rfl, ?_⟩
  rw [eqK_eq] at hh2
  cases he : eqLN l m with
  | true =>
    rw [he] at hh2
    have : boolKK (!ne) k = some r := hh2
    rw [boolKK_eq] at this
    simpa using this
  | false =>
    rw [he] at hh2
    have : boolKK ne k = some r := hh2
    rw [boolKK_eq] at this
    simpa using this
end
section
variable {E : Env} {V : PV} {t : Tr RV} {h : Hp} {nx : Nat} {ds : Option (List DC)} {kn : KN} {kx : KX} {r : Ans} {ops : Array Oper} {nt : Nat} {dst : Option Tmp} {d : Tmp} {op : Op} {ty ty' : TypeId} {pos : String} {after : Array Edge} {guard : Option (Nat × Bool)}
theorem setP_put (q : RV) (hd : d + 1 ≤ nt) (hn : nt ≤ E.n) (k : Tr RV → Option Ans) : setP q (pathOf d) t k = match (putR t E.n (some d) q some) with | some t' => k t' | none => none := by
  have h2 : Nat.ble (d + 1) E.n = true := Nat.ble_eq_true_of_le (Nat.le_trans hd hn)
  show _ = match (bif Nat.ble (d + 1) E.n then putT t d q some else none) with | some t' => k t' | none => none
  rw [setP_eq, h2, cond_true, putT_eq]
theorem putR_bind {β : Type} (q : RV) (k : Tr RV → Option β) : putR t E.n dst q k = match (putR t E.n dst q some) with | some t' => k t' | none => none := by
  cases dst with
  | none => rfl
  | some d =>
    show (bif Nat.ble (d + 1) E.n then putT t d q k else none) = match (bif Nat.ble (d + 1) E.n then putT t d q some else none) with | some t' => k t' | none => none
    cases Nat.ble (d + 1) E.n with
    | true => rw [cond_true, cond_true, putT_eq, putT_eq]
    | false => rfl
theorem gen_ret {o : Oper} {q : RV} {h' : Hp} {nx' : Nat} (hw : wantedR t ops o = some true) (hp : panicR t o = none) (ho : opR E.P E.callR0 t h nx o = some (.ret q, h', nx')) (hk : (match (putR t E.n o.dst q some) with | some t' => kn t' h' nx' ds | none => none) = some r) : genK ops o E t h nx ds kn kx = some r := by
  unfold genK
  have e : runOps E.P E.callR0 ops [o] ⟨t, E.n, h, nx, ds⟩ = match (putR t E.n o.dst q some) with | some t' => some (.normal, ⟨t', E.n, h', nx', ds⟩) | none => none := by
    unfold runOps
    simp only [hw, hp, ho]
    rw [putR_bind]
    rfl
  rw [e]
  cases hq : putR t E.n o.dst q some with
  | none => rw [hq] at hk; cases hk
  | some t' => rw [hq] at hk; exact hk
section
variable (hw : wantedR t ops ⟨dst, op, ty', pos, after, guard⟩ = some true)
include hw
theorem gen_put {q : RV} {h' : Hp} {nx' : Nat} (hd : dst = some d) (hd1 : d + 1 ≤ nt) (hn : nt ≤ E.n) (hp : panicR t ⟨dst, op, ty', pos, after, guard⟩ = none) (ho : opR E.P E.callR0 t h nx ⟨dst, op, ty', pos, after, guard⟩ = some (.ret q, h', nx')) (hk : setP q (pathOf d) t (fun t' => kn t' h' nx' ds) = some r) : genK ops ⟨dst, op, ty', pos, after, guard⟩ E t h nx ds kn kx = some r := by
  subst hd
  rw [setP_put q hd1 hn] at hk
  exact gen_ret hw hp ho hk
theorem gen_pure {q : RV} (hd : dst = some d) (hd1 : d + 1 ≤ nt) (hn : nt ≤ E.n) (hc : clsR E.P ⟨dst, op, ty', pos, after, guard⟩ = .pure) (hp : panicR t ⟨dst, op, ty', pos, after, guard⟩ = none) (hq : pureR E.P t ⟨dst, op, ty', pos, after, guard⟩ = some q) (hk : toK (pathOf d) t h nx ds kn q = some r) : genK ops ⟨dst, op, ty', pos, after, guard⟩ E t h nx ds kn kx = some r := by
  refine gen_put hw hd hd1 hn hp ?_ hk
  unfold opR
  rw [hc]
  simp only [hq]
theorem gen_read {q : RV} (hd : dst = some d) (hd1 : d + 1 ≤ nt) (hn : nt ≤ E.n) (hc : clsR E.P ⟨dst, op, ty', pos, after, guard⟩ = .read) (hp : panicR t ⟨dst, op, ty', pos, after, guard⟩ = none) (hq : readR E.P t h ⟨dst, op, ty', pos, after, guard⟩ = some q) (hk : toK (pathOf d) t h nx ds kn q = some r) : genK ops ⟨dst, op, ty', pos, after, guard⟩ E t h nx ds kn kx = some r := by
  refine gen_put hw hd hd1 hn hp ?_ hk
  unfold opR
  rw [hc]
  simp only [hq]
theorem gen_alloc {q : RV} {ob : OB} (hd : dst = some d) (hd1 : d + 1 ≤ nt) (hn : nt ≤ E.n) (hc : clsR E.P ⟨dst, op, ty', pos, after, guard⟩ = .alloc) (hp : panicR t ⟨dst, op, ty', pos, after, guard⟩ = none) (hq : allocR E.P t nx ⟨dst, op, ty', pos, after, guard⟩ = some (q, ob)) (hk : newK ob h nx (fun h' nx' => setP q (pathOf d) t fun t' => kn t' h' nx' ds) = some r) : genK ops ⟨dst, op, ty', pos, after, guard⟩ E t h nx ds kn kx = some r := by
  unfold newK at hk
  rw [forceNK_eq, setF_eq] at hk
  refine gen_put hw hd hd1 hn hp ?_ hk
  unfold opR
  rw [hc]
  simp only [hq, forceN_eq, putT_eq]
theorem gen_store (hV : V.Ok E.P) {x v : Operand} {h' : Hp} (hop : op = .store ty x v) (hq : storeR E.P h ty (evalR t x) (evalR t v) some = some h') (hd : dstOk nt dst = true) (hn : nt ≤ E.n) (hk : setD (cDst dst) undR t (fun t' => kn t' h' nx ds) = some r) : genK ops ⟨dst, op, ty', pos, after, guard⟩ E t h nx ds kn kx = some r := by
  subst hop
  refine gen_ret (q := undR) (h' := h') (nx' := nx) hw rfl ?_ ?_
  · have : effR E.P E.callR0 t h nx ⟨dst, .store ty x v, ty', pos, after, guard⟩ = some (.ret undR, h', nx) := by
      show unitR (storeR E.P h ty (evalR t x) (evalR t v) some) nx = _
      rw [hq]
      rfl
    exact this
  · rw [setD_eq dst undR t E.n nt _ hd hn, putR_bind] at hk
    exact hk
theorem gen_call {f : FuncId} {args : Array Operand} {tys : Array TypeId} (hck : CK E.callK E.callR0) (hV : V.Ok E.P) (hop : op = .call ⟨.value (.func f), args, tys⟩) (hb : bodyOf V f = true) (hd : dstOk nt dst = true) (hn : nt ≤ E.n) (hk : iCall (cDst dst) f (cOds args.toList) E t h nx ds kn kx = some r) : genK ops ⟨dst, op, ty', pos, after, guard⟩ E t h nx ds kn kx = some r := by
  subst hop
  have hk' : getL (cOds args.toList) t (fun l => E.callK (.fn f) l h nx (backK (cDst dst) t ds kn kx)) = some r := hk
  rw [getL_eq] at hk'
  have hc := hck _ _ _ _ _ _ hk'
  cases hr : E.callR0 (.fn f) (args.toList.map (evalR t)) h nx with
  | none => rw [hr] at hc; cases hc
  | some q =>
    obtain ⟨re, h', nx'⟩ := q
    rw [hr] at hc
    have hc' : backK (cDst dst) t ds kn kx re h' nx' = some r := hc
    have ho : opR E.P E.callR0 t h nx ⟨dst, .call ⟨.value (.func f), args, tys⟩, ty', pos, after, guard⟩ = some (re, h', nx') := by
      have hbody : ∃ fn c, E.P.funcs[f]? = some fn ∧ fn.body = some c := by
        unfold bodyOf at hb
        split at hb
        · rename_i fn hfn
          cases hbb : fn.body with
          | none => rw [hbb] at hb; cases hb
          | some c => exact ⟨fn, c, hV.func _ _ hfn, hbb⟩
        · cases hb
      obtain ⟨fn, c, hfn, hbb⟩ := hbody
      show effR E.P E.callR0 t h nx ⟨dst, .call ⟨.value (.func f), args, tys⟩, ty', pos, after, guard⟩ = _
      have e1 : externR E.P f (args.toList.map (evalR t)) = none := by
        unfold externR
        rw [hfn]
        simp only [hbb]
      have e2 : cloneR E.P f (args.toList.map (evalR t)) h nx = none := by
        unfold cloneR
        rw [hfn]
        simp only [hbb]
      show (match externR E.P f (args.toList.map (evalR t)) with
        | some r => some (RE.ret r, h, nx)
        | none => match cloneR E.P f (args.toList.map (evalR t)) h nx with
          | some r => some r
          | none => E.callR0 (.fn f) (args.toList.map (evalR t)) h nx) = _
      rw [e1, e2]
      exact hr
    cases re with
    | ret q =>
      refine gen_ret hw rfl ho ?_
      have hc2 : setD (cDst dst) q t (fun t' => kn t' h' nx' ds) = some r := hc'
      rw [setD_eq dst q t E.n nt _ hd hn, putR_bind] at hc2
      exact hc2
    | pan v =>
      unfold genK
      have e : runOps E.P E.callR0 ops [⟨dst, .call ⟨.value (.func f), args, tys⟩, ty', pos, after, guard⟩] ⟨t, E.n, h, nx, ds⟩ = some (.panic v, ⟨t, E.n, h', nx', ds⟩) := by
        unfold runOps
        have hp : panicR t ⟨dst, .call ⟨.value (.func f), args, tys⟩, ty', pos, after, guard⟩ = none := rfl
        simp only [hw, hp, ho]
      rw [e]
      exact hc'
end
/-- one reckoning of calls says no more than another -/
def Le (cr cr' : CallR) : Prop := ∀ who args h nx x, cr who args h nx = some x → cr' who args h nx = some x
theorem effR_mono {P : Program} {cr cr' : CallR} (hl : Le cr cr') {t : Tr RV} {h : Hp} {nx : Nat} {o : Oper} {x : RE × Hp × Nat} (hh : effR P cr t h nx o = some x) : effR P cr' t h nx o = some x := by
  obtain ⟨dst, op, ty, pos, after, guard⟩ := o
  cases op with
  | call c =>
    obtain ⟨callee, args, tys⟩ := c
    cases callee with
    | value f =>
      have e : ∀ cr, effR P cr t h nx ⟨dst, .call ⟨.value f, args, tys⟩, ty, pos, after, guard⟩ = match yldR (evalR t f) with
        | some G => cr (.yld G) (args.toList.map (evalR t)) h nx
        | none => match targetR (evalR t f) (args.toList.map (evalR t)) with
          | some (f, as) => match externR P f as with
            | some r => some (.ret r, h, nx)
            | none => match cloneR P f as h nx with
              | some r => some r
              | none => cr (.fn f) as h nx
          | none => none := fun cr => rfl
      rw [e] at hh ⊢
      split at hh
      · exact hl _ _ _ _ _ hh
      · split at hh <;> try cases hh
        split at hh
        · exact hh
        · split at hh
          · exact hh
          · exact hl _ _ _ _ _ hh
    | builtin b => exact hh
    | invoke _ _ => exact hh
  | next it b => cases b <;> exact hh
  | _ => exact hh
theorem opR_mono {P : Program} {cr cr' : CallR} (hl : Le cr cr') {t : Tr RV} {h : Hp} {nx : Nat} {o : Oper} {x : RE × Hp × Nat} (hh : opR P cr t h nx o = some x) : opR P cr' t h nx o = some x := by
  unfold opR at hh ⊢
  split at hh
  · exact hh
  · exact hh
  · exact hh
  · exact effR_mono hl hh
end
theorem putR_bind2 {β : Type} {t : Tr RV} {n : Nat} {dst : Option Tmp} {q : RV} {k : Tr RV → Option β} : putR t n dst q k = match (putR t n dst q some) with | some t' => k t' | none => none := by
  cases dst with
  | none => rfl
  | some d =>
    show (bif Nat.ble (d + 1) n then putT t d q k else none) = match (bif Nat.ble (d + 1) n then putT t d q some else none) with | some t' => k t' | none => none
    cases Nat.ble (d + 1) n with
    | true => rw [cond_true, cond_true, putT_eq, putT_eq]
    | false => rfl
theorem putR_mono {β : Type} {t : Tr RV} {n : Nat} {dst : Option Tmp} {q : RV} {k k' : Tr RV → Option β} {x : β} (hk : ∀ t', k t' = some x → k' t' = some x) (hh : putR t n dst q k = some x) : putR t n dst q k' = some x := by
  rw [putR_bind2] at hh ⊢
  split at hh
  · exact hk _ hh
  · cases hh
theorem runOps_mono {P : Program} {cr cr' : CallR} (hl : Le cr cr') {ops : Array Oper} : ∀ {l : List Oper} {s : St} {x : RX × St}, runOps P cr ops l s = some x → runOps P cr' ops l s = some x
  | [], s, x, hh => hh
  | o :: l, s, x, hh => by
    rw [runOps] at hh ⊢
    cases hw : wantedR s.tm ops o with
    | none => rw [hw] at hh; cases hh
    | some b =>
      rw [hw] at hh
      cases b with
      | false => exact putR_mono (fun t' => runOps_mono hl) hh
      | true =>
        simp only at hh ⊢
        cases hp : panicR s.tm o with
        | some v => rw [hp] at hh; exact hh
        | none =>
          rw [hp] at hh
          simp only at hh ⊢
          cases ho : opR P cr s.tm s.h s.nx o with
          | some q =>
            obtain ⟨re, h', nx'⟩ := q
            rw [ho] at hh
            rw [opR_mono hl ho]
            cases re with
            | ret r => exact putR_mono (fun t' => runOps_mono hl) hh
            | pan v => exact hh
          | none =>
            rw [ho] at hh
            simp only at hh
            cases hd : deferR s.tm o with
            | none => rw [hd] at hh; cases hh
            | some fa =>
              obtain ⟨f, as⟩ := fa
              rw [hd] at hh
              have hno : opR P cr' s.tm s.h s.nx o = none := by
                obtain ⟨dst, op, ty, pos, after, guard⟩ := o
                cases op with
                | defer c => rfl
                | _ => cases hd
              rw [hno]
              simp only at hh ⊢
              cases hds : s.ds with
              | none => rw [hds] at hh; cases hh
              | some l' =>
                rw [hds] at hh
                exact putR_mono (fun t' => runOps_mono hl) hh
/-- the same, with another reckoning of calls -/
def Env.up (E : Env) (cr : CallR) : Env := ⟨E.P, E.callK, cr, E.n⟩
theorem outK_mono {kn : KN} {kx : KX} {x x' : Option (RX × St)} {r : Ans} (hx : ∀ y, x = some y → x' = some y) (h : outK kn kx x = some r) : outK kn kx x' = some r := by
  cases x with
  | none => cases h
  | some q => rw [hx q rfl]; exact h
section
variable {E : Env} {V : PV} {t : Tr RV} {h : Hp} {nx : Nat} {ds : Option (List DC)} {kn : KN} {kx : KX} {r : Ans} {ops : Array Oper} {nt : Nat} {dst : Option Tmp} {d : Tmp} {op : Op} {ty ty' : TypeId} {pos : String} {after : Array Edge} {guard : Option (Nat × Bool)}
theorem gen_up {cr : CallR} (hl : Le E.callR0 cr) {o : Oper} (hh : genK ops o E t h nx ds kn kx = some r) : genK ops o (E.up cr) t h nx ds kn kx = some r := outK_mono (fun y hy => runOps_mono hl hy) hh
theorem dstOk_some (hd1 : d + 1 ≤ nt) : dstOk nt (some d) = true := Nat.ble_eq_true_of_le hd1
theorem lenKN_eq {α : Type} : ∀ l : List α, lenKN l = l.length
  | [] => rfl
  | x :: l => congrArg Nat.succ (lenKN_eq l)
theorem forceRs_lit {β : Type} : ∀ (l : List Value) (k : List RV → β), forceRs (l.map .lit) k = k (l.map ofV)
  | [], k => rfl
  | v :: l, k => by
    show forceV v (fun r => forceRs (l.map .lit) fun l => k (r :: l)) = _
    rw [forceV_eq, forceRs_lit l]
    rfl
theorem getL1_some {β : Type} {k : List RV → Option β} {e : Option β} {y : β} : ∀ {l : List Operand}, getL1 (cOds l) t k e = some y → e = some y ∨ ((∀ x ∈ l, cellsR (evalR t x) = some [evalR t x]) ∧ k (l.map (evalR t)) = some y) := by
  intro l
  induction l generalizing k with
  | nil => exact fun hh => .inr ⟨fun x hx => by (cases hx), hh⟩
  | cons x l ih =>
    intro hh
    have hh' : getO (cOd x) t (fun r => oneK r (getL1 (cOds l) t (fun l => k (r :: l)) e) e) = some y := hh
    rw [getO_eq] at hh'
    rcases oneK_some hh' with e1 | ⟨c1, _, h2⟩
    · exact .inl e1
    rcases ih h2 with e1 | ⟨c2, h3⟩
    · exact .inl e1
    · refine .inr ⟨fun z hz => ?_, h3⟩
      rcases List.mem_cons.1 hz with rfl | hz
      · exact c1
      · exact c2 z hz
theorem fill_dense : ∀ (parts : List (Nat × Operand)) (pre post : List RV) (k : List RV → Option (RV × OB)) (n : Nat), denseP n parts = true → pre.length = n → post.length = parts.length → (∀ x ∈ parts.map (·.2), cellsR (evalR t x) = some [evalR t x]) →
    fillR (fun k => some (k * 1, 1)) (parts.map fun p => (p.1, evalR t p.2)) (pre ++ post) k = k (pre ++ parts.map fun p => evalR t p.2)
  | [], pre, post, k, n, _, _, hl, _ => by
    have : post = [] := List.eq_nil_of_length_eq_zero hl
    subst this
    simp [fillR]
  | (i, x) :: parts, pre, post, k, n, hdn, hp, hl, hc => by
    unfold denseP at hdn
    rw [Bool.and_eq_true] at hdn
    have hi := Nat.eq_of_beq_eq_true hdn.1
    subst hi
    rcases post with _ | ⟨z, post⟩
    · simp at hl
    have hx := hc x (by simp)
    simp only [List.map_cons, fillR, hx]
    have e1 : Nat.beq [evalR t x].length 1 = true := rfl
    rw [e1, cond_true, overO_go, if_pos (by simp [hp])]
    have e2 : (pre ++ z :: post).take (i * 1) ++ [evalR t x] ++ (pre ++ z :: post).drop (i * 1 + [evalR t x].length) = (pre ++ [evalR t x]) ++ post := by
      subst hp
      simp
    rw [e2]
    rw [fill_dense parts (pre ++ [evalR t x]) post k (i + 1) hdn.2 (by simp [hp]) (by simpa using hl) fun y hy => hc y (by simp only [List.map_cons, List.mem_cons]; exact .inr hy)]
    simp
section
variable (hn : nt ≤ E.n)
include hn
theorem cmpI_ok {bop : BinOp} {x y : Operand} {q : TypeId} {lt eq gt : Bool} (hd1 : d + 1 ≤ nt) (hw : wantedR t ops ⟨some d, .binOp bop ty x y q, ty', pos, after, guard⟩ = some true)
    (hb : ∀ d1 n m, binR E.P bop ty x y (.lit (.int d1 (.ofNat n))) (.lit (.int d1 (.ofNat m))) = some (.lit (.bool (cmpB lt eq gt n m))))
    (hs : stepI (.cmp (pathOf d) lt eq gt (cOd x) (cOd y) ops ⟨some d, .binOp bop ty x y q, ty', pos, after, guard⟩) E t h nx ds kn kx = some r) : genK ops ⟨some d, .binOp bop ty x y q, ty', pos, after, guard⟩ E t h nx ds kn kx = some r := by
  have hs' : getO (cOd x) t (fun a => getO (cOd y) t fun b => cmpK lt eq gt a b (toK (pathOf d) t h nx ds kn) (genK ops ⟨some d, .binOp bop ty x y q, ty', pos, after, guard⟩ E t h nx ds kn kx)) = some r := hs
  rw [getO_eq, getO_eq] at hs'
  rcases cmpK_some hs' with e | ⟨d1, n, m, e1, e2, hk⟩
  · exact e
  refine gen_pure hw rfl hd1 hn rfl rfl ?_ hk
  show binR E.P bop ty x y (evalR t x) (evalR t y) = _
  rw [e1, e2]
  exact hb _ _ _
theorem seqI_ok {bop : BinOp} {x y : Operand} {q : TypeId} {ne : Bool} (hd1 : d + 1 ≤ nt) (hw : wantedR t ops ⟨some d, .binOp bop ty x y q, ty', pos, after, guard⟩ = some true)
    (hb : ∀ l m, strR bop l m = some (.lit (.bool (if eqLN l m = true then !ne else ne))))
    (hs : stepI (.seq (pathOf d) ne (cOd x) (cOd y) ops ⟨some d, .binOp bop ty x y q, ty', pos, after, guard⟩) E t h nx ds kn kx = some r) : genK ops ⟨some d, .binOp bop ty x y q, ty', pos, after, guard⟩ E t h nx ds kn kx = some r := by
  have hs' : getO (cOd x) t (fun a => getO (cOd y) t fun b => seqK ne a b (toK (pathOf d) t h nx ds kn) (genK ops ⟨some d, .binOp bop ty x y q, ty', pos, after, guard⟩ E t h nx ds kn kx)) = some r := hs
  rw [getO_eq, getO_eq] at hs'
  rcases seqK_some hs' with e | ⟨l, m, e1, e2, hk⟩
  · exact e
  refine gen_pure hw rfl hd1 hn rfl rfl ?_ hk
  show binR E.P bop ty x y (evalR t x) (evalR t y) = _
  rw [e1, e2]
  exact hb _ _
theorem binI_ok {bop : BinOp} {x y : Operand} {q : TypeId} (hd1 : d + 1 ≤ nt) (hw : wantedR t ops ⟨some d, .binOp bop ty x y q, ty', pos, after, guard⟩ = some true)
    (hs : stepI (cBin V bop ty (pathOf d) x y ops ⟨some d, .binOp bop ty x y q, ty', pos, after, guard⟩) E t h nx ds kn kx = some r) : genK ops ⟨some d, .binOp bop ty x y q, ty', pos, after, guard⟩ E t h nx ds kn kx = some r := by
  unfold cBin at hs
  split at hs
  · unfold cCmp at hs
    split at hs
    · have hs' : getO (cOd x) t (fun a => getO (cOd y) t fun b => addK a b (toK (pathOf d) t h nx ds kn) (genK ops ⟨some d, .binOp .add ty x y q, ty', pos, after, guard⟩ E t h nx ds kn kx)) = some r := hs
      rw [getO_eq, getO_eq] at hs'
      rcases add_ok (P := E.P) hs' with e | ⟨v, hv, hk⟩
      · exact e
      · exact gen_pure hw rfl hd1 hn rfl rfl (hv _ _ _) hk
    · have hs' : getO (cOd x) t (fun a => getO (cOd y) t fun b => subK a b (toK (pathOf d) t h nx ds kn) (genK ops ⟨some d, .binOp .sub ty x y q, ty', pos, after, guard⟩ E t h nx ds kn kx)) = some r := hs
      rw [getO_eq, getO_eq] at hs'
      rcases sub_ok (P := E.P) hs' with e | ⟨v, hv, hk⟩
      · exact e
      · exact gen_pure hw rfl hd1 hn rfl rfl (hv _ _ _) hk
    · exact cmpI_ok hn hd1 hw (fun _ _ _ => cmp_lss) hs
    · exact cmpI_ok hn hd1 hw (fun _ _ _ => cmp_leq) hs
    · exact cmpI_ok hn hd1 hw (fun _ _ _ => cmp_gtr) hs
    · exact cmpI_ok hn hd1 hw (fun _ _ _ => cmp_geq) hs
    · exact cmpI_ok hn hd1 hw (fun _ _ _ => cmp_eql) hs
    · exact cmpI_ok hn hd1 hw (fun _ _ _ => cmp_neq) hs
    · exact hs
  · unfold cStr at hs
    split at hs
    · refine seqI_ok hn hd1 hw (fun l m => ?_) hs
      show boolR (eqLN l m) = _
      cases eqLN l m <;> rfl
    · refine seqI_ok hn hd1 hw (fun l m => ?_) hs
      show boolR (!eqLN l m) = _
      cases eqLN l m <;> rfl
    · exact hs
  · exact hs
theorem fldI_ok (hV : V.Ok E.P) {x : Operand} {f : Nat} (hd1 : d + 1 ≤ nt) (hw : wantedR t ops ⟨some d, .fieldAddr ty x f, ty', pos, after, guard⟩ = some true)
    (hs : stepI (cFld V ty (pathOf d) x f ops ⟨some d, .fieldAddr ty x f, ty', pos, after, guard⟩) E t h nx ds kn kx = some r) : genK ops ⟨some d, .fieldAddr ty x f, ty', pos, after, guard⟩ E t h nx ds kn kx = some r := by
  unfold cFld at hs
  split at hs
  case h_2 => exact hs
  rename_i fields hu
  split at hs
  case h_2 => exact hs
  rename_i fl hfl
  split at hs
  case h_2 => exact hs
  rename_i i hi
  cases hz : Nat.beq i.size 0 with
  | true => rw [hz] at hs; exact hs
  | false =>
  rw [hz, cond_false, forceN_eq] at hs
  have hs' : getO (cOd x) t (fun a => fldK a fl.offset (toK (pathOf d) t h nx ds kn) (genK ops ⟨some d, .fieldAddr ty x f, ty', pos, after, guard⟩ E t h nx ds kn kx)) = some r := hs
  rw [getO_eq] at hs'
  rcases ptrK_some hs' with e | ⟨G, m, off, e1, hk⟩
  · exact e
  rw [forceNK_eq] at hk
  refine gen_pure hw rfl hd1 hn rfl rfl ?_ hk
  show fieldR E.P ty (evalR t x) f = _
  unfold fieldR
  rw [hV.under hu]
  have hz2 : ¬ i.size = 0 := fun e => by rw [e] at hz; cases hz
  simp only [hfl, hV.info _ _ hi, if_neg hz2, e1, forceN_eq]
  rfl
theorem idxI_ok (hV : V.Ok E.P) {x ix : Operand} (hd1 : d + 1 ≤ nt) (hw : wantedR t ops ⟨some d, .indexAddr ty x ix, ty', pos, after, guard⟩ = some true)
    (hs : stepI (cIdx V ty (pathOf d) x ix ops ⟨some d, .indexAddr ty x ix, ty', pos, after, guard⟩) E t h nx ds kn kx = some r) : genK ops ⟨some d, .indexAddr ty x ix, ty', pos, after, guard⟩ E t h nx ds kn kx = some r := by
  unfold cIdx at hs
  split at hs
  case h_2 => exact hs
  rename_i e hu
  split at hs
  case h_2 => exact hs
  rename_i i hi
  rw [forceN_eq] at hs
  have hs' : getO (cOd x) t (fun a => getO (cOd ix) t fun b => idxK a b i.size (toK (pathOf d) t h nx ds kn) (genK ops ⟨some d, .indexAddr ty x ix, ty', pos, after, guard⟩ E t h nx ds kn kx)) = some r := hs
  rw [getO_eq, getO_eq] at hs'
  rcases slK_some hs' with e | ⟨G, m, off, len, sz, e1, hk⟩
  · exact e
  rcases natK_some hk with e | ⟨d1, n, e2, hk2⟩
  · exact e
  rcases ifK_some hk2 with e | ⟨h1, hk3⟩
  · exact e
  rw [forceNK_eq] at hk3
  refine gen_pure hw rfl hd1 hn rfl rfl ?_ hk3
  show indexR E.P ty (evalR t x) (evalR t ix) = _
  unfold indexR
  rw [hV.under hu]
  have hlt : n < len := Nat.le_of_ble_eq_true h1
  simp only [hV.info _ _ hi, e1, e2, if_pos hlt, forceN_eq]
  rfl
theorem ldI_ok (hV : V.Ok E.P) {x : Operand} (hd1 : d + 1 ≤ nt) (hw : wantedR t ops ⟨some d, .load ty x, ty', pos, after, guard⟩ = some true)
    (hs : stepI (cLd V ty (pathOf d) x ops ⟨some d, .load ty x, ty', pos, after, guard⟩) E t h nx ds kn kx = some r) : genK ops ⟨some d, .load ty x, ty', pos, after, guard⟩ E t h nx ds kn kx = some r := by
  unfold cLd at hs
  split at hs
  case h_2 => exact hs
  rename_i d' hu
  split at hs
  case h_2 => exact hs
  rename_i i hi
  split at hs
  · rename_i hrow
    rw [forceN_eq] at hs
    have hs' : getO (cOd x) t (fun a => ldnK h a i.size (toK (pathOf d) t h nx ds kn) (genK ops ⟨some d, .load ty x, ty', pos, after, guard⟩ E t h nx ds kn kx)) = some r := hs
    rw [getO_eq] at hs'
    rcases ptrK_some hs' with e | ⟨G, m, off, e1, hk⟩
    · exact e
    rcases cellsK_some hk with e | ⟨el, z, nxe, cs, hc, hk2⟩
    · exact e
    rw [dropK_eq, takeK_eq] at hk2
    split at hk2
    · rename_i hlen
      refine gen_read hw rfl hd1 hn rfl rfl ?_ hk2
      show loadR E.P h ty (evalR t x) = _
      unfold loadR
      rw [e1]
      simp only [hc, hV.under hu, hV.info _ _ hi, hrow, if_true, takeO_go, dropR_eq, if_pos hlen]
    · exact hk2
  · rename_i hrow
    have hs' : getO (cOd x) t (fun a => ld1K h a (toK (pathOf d) t h nx ds kn) (genK ops ⟨some d, .load ty x, ty', pos, after, guard⟩ E t h nx ds kn kx)) = some r := hs
    rw [getO_eq] at hs'
    rcases ptrK_some hs' with e | ⟨G, m, off, e1, hk⟩
    · exact e
    rcases cellsK_some hk with e | ⟨el, z, nxe, cs, hc, hk2⟩
    · exact e
    rw [nthK_eq] at hk2
    split at hk2
    · rename_i v hv
      refine gen_read hw rfl hd1 hn rfl rfl ?_ hk2
      show loadR E.P h ty (evalR t x) = _
      unfold loadR
      rw [e1]
      simp only [hc, hV.under hu, hV.info _ _ hi, hrow, nthR_eq, hv]
      rfl
    · exact hk2
theorem stI_ok (hV : V.Ok E.P) {x v : Operand} (hd1 : dstOk nt dst = true) (hw : wantedR t ops ⟨dst, .store ty x v, ty', pos, after, guard⟩ = some true)
    (hs : stepI (cSt V ty (cDst dst) x v ops ⟨dst, .store ty x v, ty', pos, after, guard⟩) E t h nx ds kn kx = some r) : genK ops ⟨dst, .store ty x v, ty', pos, after, guard⟩ E t h nx ds kn kx = some r := by
  unfold cSt at hs
  split at hs
  case h_2 => exact hs
  rename_i i hi
  rw [forceN_eq] at hs
  split at hs
  · rename_i h1
    have hs' : getO (cOd x) t (fun a => getO (cOd v) t fun b => st1K h a b (fun h' => setD (cDst dst) undR t fun t' => kn t' h' nx ds) (genK ops ⟨dst, .store ty x v, ty', pos, after, guard⟩ E t h nx ds kn kx)) = some r := hs
    rw [getO_eq, getO_eq] at hs'
    rcases ptrK_some hs' with e | ⟨G, m, off, e1, hk⟩
    · exact e
    rcases oneK_some hk with e | ⟨c1, c2, hk2⟩
    · exact e
    rcases cellsK_some hk2 with e | ⟨el, z, nxe, cs, hc, hk3⟩
    · exact e
    rw [over1K_eq] at hk3
    split at hk3
    · rename_i hlt
      rw [setF_eq] at hk3
      refine gen_store hw hV rfl ?_ hd1 hn hk3
      unfold storeR
      rw [e1]
      have c3 : ([evalR t v].length = i.size ∧ [evalR t v].all oneR = true) := ⟨by rw [h1]; rfl, by simp [c2]⟩
      simp only [hc, c1, hV.info _ _ hi, if_pos c3, overO_go, putT_eq]
      have c4 : off + [evalR t v].length ≤ cs.length := by simp; omega
      rw [if_pos c4]
      have c5 : cs.take off ++ [evalR t v] ++ cs.drop (off + [evalR t v].length) = cs.set off (evalR t v) := by
        rw [List.set_eq_take_append_cons_drop, if_pos hlt]
        simp
      rw [c5]
    · exact hk3
  · rename_i n h1
    have hs' : getO (cOd x) t (fun a => getO (cOd v) t fun b => stnK h a b i.size (fun h' => setD (cDst dst) undR t fun t' => kn t' h' nx ds) (genK ops ⟨dst, .store ty x v, ty', pos, after, guard⟩ E t h nx ds kn kx)) = some r := hs
    rw [getO_eq, getO_eq] at hs'
    rcases ptrK_some hs' with e | ⟨G, m, off, e1, hk⟩
    · exact e
    rcases aggK_some hk with e | ⟨l, e2, hk2⟩
    · exact e
    rw [lenEqK_eq] at hk2
    split at hk2
    case isFalse => exact hk2
    rename_i hl
    rcases allOneK_some hk2 with e | ⟨c2, hk3⟩
    · exact e
    rcases cellsK_some hk3 with e | ⟨el, z, nxe, cs, hc, hk4⟩
    · exact e
    rw [overLK_eq] at hk4
    split at hk4
    · rename_i hlt
      rw [setF_eq] at hk4
      refine gen_store hw hV rfl ?_ hd1 hn hk4
      unfold storeR
      rw [e1, e2]
      have c1 : cellsR (.agg l) = some l := rfl
      simp only [hc, c1, hV.info _ _ hi, if_pos (show l.length = i.size ∧ l.all oneR = true from ⟨hl, c2⟩), overO_go, putT_eq, if_pos hlt]
    · exact hk4
theorem lenI_ok (hV : V.Ok E.P) {args : Array Operand} {tys : Array TypeId} (hd1 : d + 1 ≤ nt) (hw : wantedR t ops ⟨some d, .call ⟨.builtin .len, args, tys⟩, ty', pos, after, guard⟩ = some true)
    (hs : stepI (cLen V (pathOf d) args.toList tys.toList ops ⟨some d, .call ⟨.builtin .len, args, tys⟩, ty', pos, after, guard⟩) E t h nx ds kn kx = some r) : genK ops ⟨some d, .call ⟨.builtin .len, args, tys⟩, ty', pos, after, guard⟩ E t h nx ds kn kx = some r := by
  unfold cLen at hs
  split at hs
  case h_2 => exact hs
  rename_i x ty ea et
  split at hs
  · rename_i hu
    have hs' : getO (cOd x) t (fun a => lensK a (toK (pathOf d) t h nx ds kn) (genK ops ⟨some d, .call ⟨.builtin .len, args, tys⟩, ty', pos, after, guard⟩ E t h nx ds kn kx)) = some r := hs
    rw [getO_eq] at hs'
    rcases strK_some hs' with e | ⟨l, e1, hk⟩
    · exact e
    rw [forceNK_eq, lenKN_eq] at hk
    refine gen_pure hw rfl hd1 hn ?_ rfl ?_ hk
    · unfold clsR
      simp only [et, hV.under hu]
    · unfold pureR
      simp only [ea, et]
      unfold lenR
      rw [hV.under hu, e1]
      simp only [forceN_eq]
  · rename_i e hu
    have hs' : getO (cOd x) t (fun a => lenK a (toK (pathOf d) t h nx ds kn) (genK ops ⟨some d, .call ⟨.builtin .len, args, tys⟩, ty', pos, after, guard⟩ E t h nx ds kn kx)) = some r := hs
    rw [getO_eq] at hs'
    rcases slK_some hs' with e | ⟨G, m, off, len, sz, e1, hk⟩
    · exact e
    refine gen_pure hw rfl hd1 hn ?_ rfl ?_ hk
    · unfold clsR
      simp only [et, hV.under hu]
    · unfold pureR
      simp only [ea, et]
      unfold lenR
      rw [hV.under hu, e1]
  · exact hs
theorem sidxI_ok (hV : V.Ok E.P) {x ix : Operand} (hd1 : d + 1 ≤ nt) (hw : wantedR t ops ⟨some d, .index ty x ix, ty', pos, after, guard⟩ = some true)
    (hs : stepI (match V.under ty with
      | some .string => .sidx (pathOf d) (cOd x) (cOd ix) ops ⟨some d, .index ty x ix, ty', pos, after, guard⟩
      | _ => .gen ops ⟨some d, .index ty x ix, ty', pos, after, guard⟩) E t h nx ds kn kx = some r) : genK ops ⟨some d, .index ty x ix, ty', pos, after, guard⟩ E t h nx ds kn kx = some r := by
  split at hs
  case h_2 => exact hs
  rename_i hu
  have hs' : getO (cOd x) t (fun a => getO (cOd ix) t fun b => sidxK a b (toK (pathOf d) t h nx ds kn) (genK ops ⟨some d, .index ty x ix, ty', pos, after, guard⟩ E t h nx ds kn kx)) = some r := hs
  rw [getO_eq, getO_eq] at hs'
  rcases strK_some hs' with e | ⟨l, e1, hk⟩
  · exact e
  rcases natK_some hk with e | ⟨d1, n, e2, hk2⟩
  · exact e
  rw [nthK_eq] at hk2
  split at hk2
  · rename_i b hb
    rw [forceNK_eq] at hk2
    refine gen_pure hw rfl hd1 hn rfl rfl ?_ hk2
    show idxR E.P ty (evalR t x) (evalR t ix) = _
    unfold idxR
    rw [hV.under hu, e1, e2]
    simp only [nthN_eq, hb]
  · exact hk2
theorem boxI_ok {x : Operand} (hd1 : d + 1 ≤ nt) (hw : wantedR t ops ⟨some d, .box ty x, ty', pos, after, guard⟩ = some true)
    (hs : stepI (.box (pathOf d) ty (cOd x) ops ⟨some d, .box ty x, ty', pos, after, guard⟩) E t h nx ds kn kx = some r) : genK ops ⟨some d, .box ty x, ty', pos, after, guard⟩ E t h nx ds kn kx = some r := by
  have hs' : getO (cOd x) t (fun a => boxK ty a h nx (fun h' nx' => setP (.ptr nx 0 0) (pathOf d) t fun t' => kn t' h' nx' ds) (genK ops ⟨some d, .box ty x, ty', pos, after, guard⟩ E t h nx ds kn kx)) = some r := hs
  rw [getO_eq] at hs'
  rcases oneK_some hs' with e | ⟨c1, c2, hk⟩
  · rcases aggK_some e with e | ⟨l, e1, hk⟩
    · exact e
    refine gen_alloc hw rfl hd1 hn rfl rfl ?_ hk
    show (match cellsR (evalR t x) with | some l => some (RV.ptr nx 0 0, OB.cells ty false 1 [(0, l)]) | none => none) = _
    rw [e1]
    rfl
  · refine gen_alloc hw rfl hd1 hn rfl rfl ?_ hk
    show (match cellsR (evalR t x) with | some l => some (RV.ptr nx 0 0, OB.cells ty false 1 [(0, l)]) | none => none) = _
    rw [c1]
theorem allocI_ok (hV : V.Ok E.P) (hd1 : d + 1 ≤ nt) (hw : wantedR t ops ⟨some d, .alloc ty, ty', pos, after, guard⟩ = some true)
    (hs : stepI (cAlloc V (pathOf d) ty ops ⟨some d, .alloc ty, ty', pos, after, guard⟩) E t h nx ds kn kx = some r) : genK ops ⟨some d, .alloc ty, ty', pos, after, guard⟩ E t h nx ds kn kx = some r := by
  unfold cAlloc at hs
  split at hs
  case h_2 => exact hs
  rename_i i hi
  split at hs
  case h_2 => exact hs
  rename_i z hz
  rw [forceRs_lit] at hs
  have hs' : newK (.cells ty false 1 [(0, z.cells.toList.map ofV)]) h nx (fun h' nx' => setP (.ptr nx 0 0) (pathOf d) t fun t' => kn t' h' nx' ds) = some r := hs
  refine gen_alloc hw rfl hd1 hn rfl rfl ?_ hs'
  show (match zerosR E.P ty with | some l => some (RV.ptr nx 0 0, OB.cells ty false 1 [(0, l)]) | none => none) = _
  unfold zerosR
  rw [hV.info _ _ hi]
  simp only [hz]
theorem bslI_ok (hV : V.Ok E.P) {len : Nat} {parts : Array (Nat × Operand)} (hd1 : d + 1 ≤ nt) (hw : wantedR t ops ⟨some d, .buildSlice ty len parts, ty', pos, after, guard⟩ = some true)
    (hs : stepI (cBsl V (pathOf d) ty len parts.toList ops ⟨some d, .buildSlice ty len parts, ty', pos, after, guard⟩) E t h nx ds kn kx = some r) : genK ops ⟨some d, .buildSlice ty len parts, ty', pos, after, guard⟩ E t h nx ds kn kx = some r := by
  unfold cBsl at hs
  split at hs
  case h_2 => exact hs
  rename_i e hu
  split at hs
  case h_2 => exact hs
  rename_i i hi
  split at hs
  case h_2 => exact hs
  rename_i z hz
  cases hb : Nat.beq i.size 1 && denseP 0 parts.toList && Nat.beq parts.toList.length len && Nat.ble 1 len && Nat.ble len 10000 with
  | false => rw [hb] at hs; exact hs
  | true =>
  rw [hb, cond_true, forceN_eq] at hs
  simp only [Bool.and_eq_true] at hb
  obtain ⟨⟨⟨⟨b1, b2⟩, b3⟩, b4⟩, b5⟩ := hb
  have b1 := Nat.eq_of_beq_eq_true b1
  have b3 := Nat.eq_of_beq_eq_true b3
  have b4 := Nat.le_of_ble_eq_true b4
  have hs' : getL1 (cOds (parts.toList.map (·.2))) t (fun cs => newK (.cells e false 1 [(0, cs)]) h nx fun h' nx' => setP (.sl nx 0 0 len 1) (pathOf d) t fun t' => kn t' h' nx' ds) (genK ops ⟨some d, .buildSlice ty len parts, ty', pos, after, guard⟩ E t h nx ds kn kx) = some r := hs
  rcases getL1_some hs' with e1 | ⟨c1, hk⟩
  · exact e1
  refine gen_alloc hw rfl hd1 hn rfl rfl ?_ hk
  have hz2 : zeroCs E.P e len = some ((rowZeros z.cells (len * i.size)).toList.map ofV) := by
    unfold zeroCs
    rw [hV.info _ _ hi]
    simp only [hz]
    have : Nat.ble (len * i.size) 10000 = true := by rw [b1, Nat.mul_one]; exact b5
    rw [this]
    rfl
  show (match E.P.underlying ty with
    | some (.slice e) => match E.P.info? e, zeroCs E.P e len with
      | some i, some z => fillR (fun k => some (k * i.size, i.size)) (parts.toList.map fun p : Nat × Operand => (p.1, evalR t p.2)) z fun cs => bif Nat.beq (len * i.size) 0 then (bif Nat.beq len 0 then some (RV.s0 nx 0 0, OB.cells e false 1 [(0, cs)]) else none) else some (RV.sl nx 0 0 len i.size, OB.cells e false 1 [(0, cs)])
      | _, _ => none
    | _ => none) = _
  simp only [hV.under hu, hV.info _ _ hi, hz2, b1]
  have hlen : ((rowZeros z.cells (len * 1)).toList.map ofV).length = parts.toList.length := by
    simp [rowZeros, b3]
  have := fill_dense parts.toList [] ((rowZeros z.cells (len * 1)).toList.map ofV) (fun cs => bif Nat.beq (len * 1) 0 then (bif Nat.beq len 0 then some (RV.s0 nx 0 0, OB.cells e false 1 [(0, cs)]) else none) else some (RV.sl nx 0 0 len 1, OB.cells e false 1 [(0, cs)])) 0 b2 rfl hlen c1
  rw [List.nil_append] at this
  rw [this]
  have hz3 : Nat.beq (len * 1) 0 = false := by
    cases len with
    | zero => omega
    | succ m => rw [Nat.mul_one]; rfl
  rw [hz3, cond_false, List.map_map]
  rfl
theorem cJ_ok {cr : CallR} (hl : Le E.callR0 cr) (hck : CK E.callK cr) (hV : V.Ok E.P) (hd1 : d + 1 ≤ nt) (hw : wantedR t ops ⟨some d, op, ty', pos, after, guard⟩ = some true)
    (hs : stepI (cJ V (pathOf d) op ops ⟨some d, op, ty', pos, after, guard⟩) E t h nx ds kn kx = some r) : genK ops ⟨some d, op, ty', pos, after, guard⟩ (E.up cr) t h nx ds kn kx = some r := by
  unfold cJ at hs
  split at hs
  · rename_i x
    have hs' : getO (cOd x) t (fun q => setP q (pathOf d) t fun t' => kn t' h nx ds) = some r := hs
    rw [getO_eq] at hs'
    exact gen_up hl (gen_pure hw rfl hd1 hn rfl rfl rfl hs')
  · rename_i x
    have hs' : getO (cOd x) t (fun q => setP q (pathOf d) t fun t' => kn t' h nx ds) = some r := hs
    rw [getO_eq] at hs'
    exact gen_up hl (gen_pure hw rfl hd1 hn rfl rfl rfl hs')
  · rename_i c a b
    have hs' : getO (cOd c) t (fun v => boolK v (fun q => Bool.rec (getO (cOd b) t (toK (pathOf d) t h nx ds kn)) (getO (cOd a) t (toK (pathOf d) t h nx ds kn)) q) (genK ops ⟨some d, .pick c a b, ty', pos, after, guard⟩ E t h nx ds kn kx)) = some r := hs
    rw [getO_eq] at hs'
    rcases boolK_some hs' with e | ⟨q, e1, hk⟩
    · exact gen_up hl (e)
    cases q with
    | true =>
      have hk' : getO (cOd a) t (toK (pathOf d) t h nx ds kn) = some r := hk
      rw [getO_eq] at hk'
      refine gen_up hl (gen_pure hw rfl hd1 hn rfl rfl ?_ hk')
      unfold pureR
      simp only [e1]
    | false =>
      have hk' : getO (cOd b) t (toK (pathOf d) t h nx ds kn) = some r := hk
      rw [getO_eq] at hk'
      refine gen_up hl (gen_pure hw rfl hd1 hn rfl rfl ?_ hk')
      unfold pureR
      simp only [e1]
  · exact gen_up hl (binI_ok hn hd1 hw hs)
  · rename_i q x
    have hs' : getO (cOd x) t (fun a => notK a (toK (pathOf d) t h nx ds kn) (genK ops ⟨some d, .unOp .not q x, ty', pos, after, guard⟩ E t h nx ds kn kx)) = some r := hs
    rw [getO_eq] at hs'
    rcases boolK_some hs' with e | ⟨b, e1, hk⟩
    · exact gen_up hl (e)
    cases b with
    | true =>
      refine gen_up hl (gen_pure hw rfl hd1 hn rfl rfl ?_ hk)
      unfold pureR
      simp only [e1]
      rfl
    | false =>
      refine gen_up hl (gen_pure hw rfl hd1 hn rfl rfl ?_ hk)
      unfold pureR
      simp only [e1]
      rfl
  · exact gen_up hl (fldI_ok hn hV hd1 hw hs)
  · exact gen_up hl (idxI_ok hn hV hd1 hw hs)
  · exact gen_up hl (ldI_ok hn hV hd1 hw hs)
  · exact gen_up hl (stI_ok hn hV (dstOk_some hd1) hw hs)
  · rename_i x i
    have hs' : getO (cOd x) t (fun a => extK a i (toK (pathOf d) t h nx ds kn) (genK ops ⟨some d, .extract x i, ty', pos, after, guard⟩ E t h nx ds kn kx)) = some r := hs
    rw [getO_eq] at hs'
    rcases tupK_some hs' with e | ⟨l, e1, hk⟩
    · exact gen_up hl (e)
    rw [nthK_eq] at hk
    split at hk
    · rename_i v hv
      refine gen_up hl (gen_pure hw rfl hd1 hn rfl rfl ?_ hk)
      show extractR (evalR t x) i = _
      rw [e1]
      unfold extractR
      simp only [nthR_eq, hv]
    · exact gen_up hl (hk)
  · rename_i x
    have hs' : getO (cOd x) t (fun a => nilcK a (toK (pathOf d) t h nx ds kn) (genK ops ⟨some d, .nilCheck x, ty', pos, after, guard⟩ E t h nx ds kn kx)) = some r := hs
    rw [getO_eq] at hs'
    rcases ptrK_some hs' with e | ⟨G, m, off, e1, hk⟩
    · exact gen_up hl (e)
    refine gen_up hl (gen_pure hw rfl hd1 hn rfl rfl ?_ hk)
    show nilCheckR (evalR t x) = _
    rw [e1]
    rfl
  · exact gen_up hl (boxI_ok hn hd1 hw hs)
  · exact gen_up hl (allocI_ok hn hV hd1 hw hs)
  · exact gen_up hl (bslI_ok hn hV hd1 hw hs)
  · exact gen_up hl (sidxI_ok hn hV hd1 hw hs)
  · rename_i f args tys
    cases hb : bodyOf V f with
    | false => rw [hb] at hs; exact gen_up hl (hs)
    | true =>
      rw [hb, cond_true] at hs
      exact gen_call (E := E.up cr) hw hck hV rfl hb (dstOk_some hd1) hn hs
  · exact gen_up hl (lenI_ok hn hV hd1 hw hs)
  · exact gen_up hl (hs)
theorem cJd_ok {cr : CallR} (hl : Le E.callR0 cr) (hck : CK E.callK cr) (hV : V.Ok E.P) {o : Oper} (hw : wantedR t ops o = some true) (hs : stepI (cJd V nt ops o) E t h nx ds kn kx = some r) : genK ops o (E.up cr) t h nx ds kn kx = some r := by
  obtain ⟨dst, op, ty', pos, after, guard⟩ := o
  unfold cJd at hs
  cases dst with
  | none =>
    have hs' : stepI (cJ0 V op ops ⟨none, op, ty', pos, after, guard⟩) E t h nx ds kn kx = some r := hs
    unfold cJ0 at hs'
    split at hs'
    · exact gen_up hl (stI_ok hn hV rfl hw hs')
    · rename_i f args tys
      cases hb : bodyOf V f with
      | false => rw [hb] at hs'; exact gen_up hl (hs')
      | true =>
        rw [hb, cond_true] at hs'
        exact gen_call (E := E.up cr) hw hck hV rfl hb rfl hn hs'
    · exact gen_up hl (hs')
  | some d =>
    have hs' : stepI (bif Nat.ble (d + 1) nt then cJ V (pathOf d) op ops ⟨some d, op, ty', pos, after, guard⟩ else .gen ops ⟨some d, op, ty', pos, after, guard⟩) E t h nx ds kn kx = some r := hs
    cases hb : Nat.ble (d + 1) nt with
    | false => rw [hb] at hs'; exact gen_up hl (hs')
    | true =>
      rw [hb, cond_true] at hs'
      exact cJ_ok hn hl hck hV (Nat.le_of_ble_eq_true hb) hw hs'
theorem cI_ok {cr : CallR} (hl : Le E.callR0 cr) (hck : CK E.callK cr) (hV : V.Ok E.P) {o : Oper} (hs : stepI (cI V nt ops o) E t h nx ds kn kx = some r) : genK ops o (E.up cr) t h nx ds kn kx = some r := by
  unfold cI cGd at hs
  split at hs
  · rename_i hg
    refine cJd_ok hn hl hck hV ?_ hs
    unfold wantedR
    rw [hg]
  · rename_i j want hg
    split at hs
    case h_2 => exact gen_up hl hs
    rename_i dd hj
    cases hdo : dstOk nt o.dst with
    | false => rw [hdo] at hs; exact gen_up hl hs
    | true =>
    rw [hdo, cond_true] at hs
    have hs' : wantK (pathOf dd) want t (stepI (cJd V nt ops o) E t h nx ds kn kx) (setD (cDst o.dst) undR t fun t' => kn t' h nx ds) (genK ops o E t h nx ds kn kx) = some r := hs
    unfold wantK at hs'
    rw [getP_eq] at hs'
    rcases boolK_some hs' with e | ⟨b, e1, hk⟩
    · exact gen_up hl (e)
    have hget : t.get dd = some (.lit (.bool b)) := by
      cases hg2 : t.get dd with
      | none =>
        rw [hg2] at e1
        have : (undR : RV) = .lit (.bool b) := e1
        injection this with this
        cases this
      | some v =>
        rw [hg2] at e1
        rw [show v = .lit (.bool b) from e1]
    have hwr : wantedR t ops o = some (b == want) := by
      unfold wantedR
      rw [hg]
      simp only [hj, hget]
      cases b <;> cases want <;> rfl
    have skip : b ≠ want → (setD (cDst o.dst) undR t fun t' => kn t' h nx ds) = some r → genK ops o E t h nx ds kn kx = some r := fun hne hk => by
      have hwf : wantedR t ops o = some false := by
        rw [hwr]
        cases b <;> cases want <;> first | rfl | exact absurd rfl hne
      rw [setD_eq o.dst undR t E.n nt _ hdo hn, putR_bind] at hk
      unfold genK
      have e : runOps E.P E.callR0 ops [o] ⟨t, E.n, h, nx, ds⟩ = match (putR t E.n o.dst undR some) with | some t' => some (.normal, ⟨t', E.n, h, nx, ds⟩) | none => none := by
        unfold runOps
        simp only [hwf]
        rw [putR_bind]
        rfl
      rw [e]
      cases hq : putR t E.n o.dst undR some with
      | none => rw [hq] at hk; cases hk
      | some t' => rw [hq] at hk; exact hk
    cases b with
    | true =>
      cases want with
      | true => exact cJd_ok hn hl hck hV (by rw [hwr]; rfl) hk
      | false => exact gen_up hl (skip (by simp) hk)
    | false =>
      cases want with
      | false => exact cJd_ok hn hl hck hV (by rw [hwr]; rfl) hk
      | true => exact gen_up hl (skip (by simp) hk)
end
end
end Go.Proofs.YthkhdbfohaaojaaGreatDoor.Ax
