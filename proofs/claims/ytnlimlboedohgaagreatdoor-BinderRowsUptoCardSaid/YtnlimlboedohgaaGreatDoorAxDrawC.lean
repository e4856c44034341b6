/-
  Regions whose order is drawn: whichever order comes, it ends alike.
-/
import Derived.Test.YtnlimlboedohgaaGreatDoorAxDrawB
namespace Go.Proofs.YtnlimlboedohgaaGreatDoor.Ax
open Go.RowKit
set_option linter.unusedVariables false
set_option linter.unusedSimpArgs false

section
variable {P : Program} {call : CallR} {ops : Array Oper} {M : Nat -> Nat} {S0 : Hp} {base n : Nat} {t0 : Nat -> RV} {c : Cx} {rvF : List Rec}
theorem wanted_looks {g : Gm} {env : Nat -> Value} {t : Tr RV} {a : Act} {o : Oper} {b : Bool} (hw : wantedR t ops o = some b) (hT : ∀ d ∈ o.looksAt ops, R g env ((t.get d).getD (.lit undef)) (a.tmps.getD d undef)) : Region.wanted o (yielded ops a.tmps) = b := by
 unfold wantedR at hw
 unfold Region.wanted
 split at hw
 ·rename_i hg
  cases hw
  rw [hg]
 ·rename_i j want hg
  rw [hg]
  simp only
  unfold yielded
  split at hw
  ·rename_i hd
   cases hw
   rw [hd]
   rfl
  ·rename_i d hd
   rw [hd]
   simp only [Option.bind_some]
   have hr := hT d (by simp [Oper.looksAt, hg, hd])
   have hx : ∀ v : Value, a.tmps.getD d undef = v -> (a.tmps[d]? = none /\ v = undef) \/ a.tmps[d]? = some v := fun v hv => by
    cases hx : a.tmps[d]? with
    | none =>
     rw [Array.getD_eq_getD_getElem?, hx] at hv
     exact .inl ⟨rfl, hv.symm⟩
    | some u =>
     have : a.tmps.getD d undef = u := by simp [hx]
     rw [this] at hv
     exact .inr (by rw [hv])
   split at hw <;> try cases hw
   ·rename_i ht
    rw [ht] at hr
    generalize hv : a.tmps.getD d undef = v at hr
    cases hr
    rcases hx _ hv with ⟨h1, _⟩ | h1 <;> rw [h1] <;> rfl
   ·rename_i bb ht
    rw [ht] at hr
    generalize hv : a.tmps.getD d undef = v at hr
    cases hr
    rcases hx _ hv with ⟨h1, h2⟩ | h1
    ·cases h2
    ·rw [h1]
     cases bb <;> cases want <;> cases hw <;> rfl
   ·rename_i vs ht
    rw [ht] at hr
    generalize hv : a.tmps.getD d undef = v at hr
    cases hr
    rcases hx _ hv with ⟨h1, _⟩ | h1 <;> rw [h1] <;> rfl
theorem eval_looks {g : Gm} {env : Nat -> Value} {t : Tr RV} {a : Act} {o : Oper} (hT : ∀ d ∈ o.looksAt ops, R g env ((t.get d).getD (.lit undef)) (a.tmps.getD d undef)) (x : Operand) (hx : x ∈ o.op.operands) : R g env (evalR t x) (a.eval x) := by
 cases x with
 | tmp i =>
  have := hT i (List.mem_append_left _ (List.mem_filterMap.2 ⟨.tmp i, by simpa using hx, rfl⟩))
  show R g env (match t.get i with | some r => r | none => .lit undef) (a.tmps.getD i undef)
  cases ht : t.get i with
  | none => rw [ht] at this; exact this
  | some r => rw [ht] at this; exact this
 | const v => exact ofV_R _ _ _
 | global b => exact .lit _
 | func f => exact .lit _
/-- the context of a walk through the region: numbers are kept for what has not come up yet -/
def cL (c : Cx) (base N : Nat) (L : Nat -> Bool) : Cx := { c with F := fun x => if base <= x /\ x < base + N /\ L (x - base) = false then some (fun _ => none) else c.F x }
structure Inv (D : List Deferred) (ops : Array Oper) (M : Nat -> Nat) (S0 : Hp) (base n : Nat) (t0 : Nat -> RV) (c : Cx) (rvF : List Rec) (g0 : Gm) (L : Nat -> Bool) (a : Act) (w : World) : Prop where
 ex : ∃ g, Ext g0 g /\ (∀ x, R g c.env (cvL t0 L rvF x) (a.tmps.getD x undef)) /\ RW (cL c base ops.size L) g (htA L (stE M S0 (base + ops.size) L rvF).1 (stE M S0 (base + ops.size) L rvF).2.1 rvF) (stE M S0 (base + ops.size) L rvF).2.2 w
 size : a.tmps.size = n
 df : a.defers = D
 none_ : ∀ k ob, allocAt rvF k = some ob -> (stE M S0 (base + ops.size) L rvF).1.testBit k = false -> (stE M S0 (base + ops.size) L rvF).2.1.get (base + k) = none
theorem getD_put {a : Act} {d : Option Tmp} {v : Value} {x : Nat} : (a.put d v).tmps.getD x undef = if d = some x /\ x < a.tmps.size then v else a.tmps.getD x undef := by
 cases d with
 | none => rw [if_neg (by simp)]; rfl
 | some d =>
  by_cases hd : d = x
  ·subst hd
   by_cases hs : d < a.tmps.size
   ·rw [if_pos ⟨rfl, hs⟩]
    simp [Act.put, hs]
   ·rw [if_neg (fun hh => hs hh.2)]
    simp [Act.put, hs]
  ·rw [if_neg (fun hh => hd (Option.some.inj hh.1))]
   simp [Act.put, Array.getElem?_setIfInBounds_ne hd]
theorem lastEff_spec : ∀ {l : List Rec} {k : Nat}, effAt l k = true -> ∃ e, lastEff l = some e /\ k <= e /\ effAt l e = true
 | [], k, h => by cases h
 | q :: l, k, h => by
  unfold lastEff
  unfold effAt at h
  split
  ·rename_i h' n' hk
   refine ⟨l.length, rfl, ?_, ?_⟩
   ·split at h
    ·omega
    ·have := eff_lt h
     omega
   ·unfold effAt
    rw [if_pos rfl, hk]
  ·rename_i hk
   split at h
   ·split at h
    ·rename_i h' n' hk'
     exact absurd hk' (hk _ _)
    ·cases h
   ·obtain ⟨e, h1, h2, h3⟩ := lastEff_spec h
    refine ⟨e, h1, h2, ?_⟩
    unfold effAt
    rw [if_neg (by have := eff_lt h3; omega)]
    exact h3
theorem eff_split {k : Nat} (hG : Good P call ops M S0 base n t0 rvF) (he : effAt rvF k = true) : ∃ pre q l, rvF = pre ++ q :: l /\ l.length = k /\ (∀ e, lastEff l = some e -> (M k).testBit e = true) /\ ∃ h' nx', q.kd = .eff h' nx' := by
 obtain ⟨pre, q, l, h1, h2, h3, h4⟩ := Good.split hG (eff_lt he)
 obtain ⟨o, t, _, _, _, _, hk⟩ := h3
 subst h2
 rw [h1, eff_at] at he
 refine ⟨pre, q, l, h1, rfl, ?_⟩
 cases hk with
 | skip _ _ h => rw [h] at he; cases he
 | pure _ _ h => rw [h] at he; cases he
 | read _ h => rw [h] at he; cases he
 | alloc _ _ _ _ h => rw [h] at he; cases he
 | eff h' nx' _ hc _ h => exact ⟨hc, h', nx', h⟩
def StLast (M : Nat -> Nat) (S0 : Hp) (nx0 : Nat) (L : Nat -> Bool) (rv : List Rec) : Prop := ((∀ k, effAt rv k = true -> L k = false) /\ stE M S0 nx0 L rv = (0, S0, nx0)) \/ ∃ e, effAt rv e = true /\ L e = true /\ (∀ k, effAt rv k = true -> e < k -> L k = false) /\ (stE M S0 nx0 L rv).1 = M e
/-- what the last chosen change of memory is -/
theorem st_last {nx0 : Nat} {L : Nat -> Bool} : ∀ {rv : List Rec}, StLast M S0 nx0 L rv
 | [] => .inl ⟨fun k h => by (cases h), rfl⟩
 | q :: l => by
  have low : ∀ k, k < l.length -> effAt (q :: l) k = effAt l k := fun k hk => by
   conv => lhs; unfold effAt
   rw [if_neg (by omega)]
  have up : ∀ k, effAt (q :: l) k = true -> k < l.length \/ k = l.length := fun k hk => by
   have := eff_lt hk
   simp at this
   omega
  have skip : (∀ h n, q.kd = .eff h n -> L l.length = false) -> stE M S0 nx0 L (q :: l) = stE M S0 nx0 L l -> StLast M S0 nx0 L (q :: l) := fun h1 h2 => by
   have top : effAt (q :: l) l.length = true -> L l.length = false := fun hh => by
    unfold effAt at hh
    rw [if_pos rfl] at hh
    split at hh
    ·rename_i h n hk
     exact h1 h n hk
    ·cases hh
   rcases st_last (nx0 := nx0) (L := L) (rv := l) with ⟨h3, h4⟩ | ⟨e, e1, e2, e3, e4⟩
   ·refine .inl ⟨fun k hk => ?_, h2.trans h4⟩
    rcases up k hk with hlt | rfl
    ·exact h3 k (by rw [<- low k hlt]; exact hk)
    ·exact top hk
   ·refine .inr ⟨e, by rw [low e (eff_lt e1)]; exact e1, e2, fun k hk hlt => ?_, by rw [h2]; exact e4⟩
    rcases up k hk with hlt' | rfl
    ·exact e3 k (by rw [<- low k hlt']; exact hk) hlt
    ·exact top hk
  cases hkd : q.kd with
  | eff h' n' =>
   cases hLl : L l.length with
   | true =>
    refine .inr ⟨l.length, ?_, hLl, fun k hk hlt => ?_, ?_⟩
    ·unfold effAt
     rw [if_pos rfl, hkd]
    ·rcases up k hk with h | h <;> omega
    ·unfold stE
     rw [hkd, hLl]
     rfl
   | false =>
    refine skip (fun _ _ _ => hLl) ?_
    conv => lhs; unfold stE
    rw [hkd, hLl]
    rfl
  | flat => exact skip (fun h n hk => by rw [hkd] at hk; cases hk) (by conv => lhs; unfold stE; rw [hkd])
  | read t o => exact skip (fun h n hk => by rw [hkd] at hk; cases hk) (by conv => lhs; unfold stE; rw [hkd])
  | alloc G ob => exact skip (fun h n hk => by rw [hkd] at hk; cases hk) (by conv => lhs; unfold stE; rw [hkd])
end
end Go.Proofs.YtnlimlboedohgaaGreatDoor.Ax
