/-
  Regions whose order is drawn: the record of a reckoning.
-/
import Derived.Test.YtnlimlboedohgaaGreatDoorAxDrawA
namespace Go.Proofs.YtnlimlboedohgaaGreatDoor.Ax
open Go.RowKit
set_option linter.unusedVariables false
set_option linter.unusedSimpArgs false

theorem beqN {a b : Nat} : Nat.beq a b = true ↔ a = b := by rw [Nat.beq_eq]
theorem eqV_eq {u v : Value} (h : eqV u v = true) : u = v := by
 unfold eqV at h
 split at h
 ·rw [eq_of_beq h]
 ·rw [Bool.and_eq_true] at h
  have h1 := h.1
  split at h1
  ·rename_i e
   rw [e, beqN.1 h.2]
  ·cases h1
 ·rw [Bool.and_eq_true] at h
  have h1 := h.1
  split at h1
  ·rename_i e
   rw [e, beqN.1 h.2]
  ·cases h1
 ·rfl
 ·rfl
 ·rfl
 ·rfl
 ·rfl
 ·rename_i f a b f' c d
  rw [Bool.and_eq_true] at h
  have h2 := h.2
  split at h2
  ·rename_i k1 k2 k3 k4
   have ea : a = #[] := by rw [<- Array.toArray_toList (xs := a), k1]
   have eb : b = #[] := by rw [<- Array.toArray_toList (xs := b), k2]
   have ec : c = #[] := by rw [<- Array.toArray_toList (xs := c), k3]
   have ed : d = #[] := by rw [<- Array.toArray_toList (xs := d), k4]
   rw [beqN.1 h.1, ea, eb, ec, ed]
  ·cases h2
 ·rename_i a b
  split at h
  ·rename_i k1 k2
   have ea : a = #[] := by rw [<- Array.toArray_toList (xs := a), k1]
   have eb : b = #[] := by rw [<- Array.toArray_toList (xs := b), k2]
   rw [ea, eb]
  ·cases h
 ·cases h
mutual
theorem eqRV_eq : ∀ {r s : RV}, eqRV r s = true -> r = s
 | .str l, s, h => by
  cases s <;> try (simp [eqRV] at h; done)
  simp only [eqRV] at h
  rw [eqLN_iff.1 h]
 | .opq i, s, h => by
  cases s <;> try (simp [eqRV] at h; done)
  simp only [eqRV] at h
  rw [beqN.1 h]
 | .ptr a b c, s, h => by
  cases s <;> try (simp [eqRV] at h; done)
  simp only [eqRV, Bool.and_eq_true] at h
  rw [beqN.1 h.1.1, beqN.1 h.1.2, beqN.1 h.2]
 | .sl a b c x y, s, h => by
  cases s <;> try (simp [eqRV] at h; done)
  simp only [eqRV, Bool.and_eq_true] at h
  rw [beqN.1 h.1.1.1.1, beqN.1 h.1.1.1.2, beqN.1 h.1.1.2, beqN.1 h.1.2, beqN.1 h.2]
 | .s0 a b c, s, h => by
  cases s <;> try (simp [eqRV] at h; done)
  simp only [eqRV, Bool.and_eq_true] at h
  rw [beqN.1 h.1.1, beqN.1 h.1.2, beqN.1 h.2]
 | .se, s, h => by
  cases s <;> first | rfl | (simp [eqRV] at h; done)
 | .yld a, s, h => by
  cases s <;> (simp [eqRV] at h; done)
 | .mp a, s, h => by
  cases s <;> try (simp [eqRV] at h; done)
  simp only [eqRV] at h
  rw [beqN.1 h]
 | .agg l, s, h => by
  cases s <;> try (simp [eqRV] at h; done)
  simp only [eqRV] at h
  rw [eqRVs_eq h]
 | .tup l, s, h => by
  cases s <;> try (simp [eqRV] at h; done)
  simp only [eqRV] at h
  rw [eqRVs_eq h]
 | .ifc t r, s, h => by
  cases s <;> try (simp [eqRV] at h; done)
  simp only [eqRV, Bool.and_eq_true] at h
  rw [beqN.1 h.1, eqRV_eq h.2]
 | .clo f a l, s, h => by
  cases s <;> try (simp [eqRV] at h; done)
  simp only [eqRV, Bool.and_eq_true] at h
  rw [beqN.1 h.1.1, eqRVs_eq h.1.2, eqRVs_eq h.2]
 | .lit v, s, h => by
  cases s <;> try (simp [eqRV] at h; done)
  simp only [eqRV] at h
  rw [eqV_eq h]
theorem eqRVs_eq : ∀ {l m : List RV}, eqRVs l m = true -> l = m
 | [], [], _ => rfl
 | [], _ :: _, h => by simp [eqRVs] at h
 | _ :: _, [], h => by simp [eqRVs] at h
 | r :: l, s :: m, h => by
  simp only [eqRVs, Bool.and_eq_true] at h
  rw [eqRV_eq h.1, eqRVs_eq h.2]
end
/-- a temporary, by the last among chosen operations that set it -/
def cvL (t0 : Nat -> RV) (L : Nat -> Bool) : List Rec -> Nat -> RV
 | [], x => t0 x
 | q :: l, x => if L l.length = true /\ q.dst = some x then q.r else cvL t0 L l x
def allocAt : List Rec -> Nat -> Option OB
 | [], _ => none
 | q :: l, k => if l.length = k then (match q.kd with
  | .alloc _ ob => some ob
  | _ => none) else allocAt l k
def effAt : List Rec -> Nat -> Bool
 | [], _ => false
 | q :: l, k => if l.length = k then (match q.kd with
  | .eff _ _ => true
  | _ => false) else effAt l k
def dstOf (ops : Array Oper) (k : Nat) : Option Tmp := (ops[k]?).bind (·.dst)
def all : Nat -> Bool := fun _ => true
section
variable {P : Program} {call : CallR} {ops : Array Oper} {M : Nat -> Nat} {S0 : Hp} {base n : Nat} {t0 : Nat -> RV}
/-- what one operation did -/
inductive KdOK (P : Program) (call : CallR) (ops : Array Oper) (M : Nat -> Nat) (S0 : Hp) (base : Nat) (o : Oper) (t : Tr RV) (l : List Rec) (q : Rec) : Prop
 | skip (h1 : wantedR t ops o = some false) (h2 : q.r = .lit undef) (h3 : q.kd = .flat)
 | pure (h1 : wantedR t ops o = some true) (h2 : pureR P t o = some q.r) (h3 : q.kd = .flat)
 | read (h1 : wantedR t ops o = some true) (h3 : q.kd = .read t o)
 | alloc (ob : OB) (h1 : wantedR t ops o = some true) (h2 : S0.get (base + l.length) = none) (h3 : allocR P t (base + l.length) o = some (q.r, ob)) (h4 : q.kd = .alloc (base + l.length) ob)
 | eff (h' : Hp) (nx' : Nat) (h1 : wantedR t ops o = some true) (h2 : ∀ e, lastEff l = some e -> (M l.length).testBit e = true) (h3 : effR P call t (htA (fun a => (M l.length).testBit a) (stE M S0 (base + ops.size) all l).1 (stE M S0 (base + ops.size) all l).2.1 l) (stE M S0 (base + ops.size) all l).2.2 o = some (.ret q.r, h', nx')) (h4 : q.kd = .eff h' nx')
def GoodAt (P : Program) (call : CallR) (ops : Array Oper) (M : Nat -> Nat) (S0 : Hp) (base n : Nat) (t0 : Nat -> RV) (l : List Rec) (q : Rec) : Prop :=
 ∃ o t, ops[l.length]? = some o /\ q.dst = o.dst /\ (∀ d, q.dst = some d -> d < n) /\ (∀ x, (t.get x).getD (.lit undef) = cvL t0 all l x) /\ KdOK P call ops M S0 base o t l q
def Good (P : Program) (call : CallR) (ops : Array Oper) (M : Nat -> Nat) (S0 : Hp) (base n : Nat) (t0 : Nat -> RV) : List Rec -> Prop
 | [] => True
 | q :: l => GoodAt P call ops M S0 base n t0 l q /\ Good P call ops M S0 base n t0 l
theorem put_good {β : Type} {t : Tr RV} {d : Option Tmp} {r : RV} {k : Tr RV -> Option β} {y : β} {l : List Rec} {kd : Kd} (hp : putR t n d r k = some y) (ht : ∀ x, (t.get x).getD (.lit undef) = cvL t0 all l x) : ∃ t', k t' = some y /\ (∀ x, (t'.get x).getD (.lit undef) = cvL t0 all (⟨d, r, kd⟩ :: l) x) /\ ∀ d', d = some d' -> d' < n := by
 unfold putR at hp
 split at hp
 ·refine ⟨t, hp, fun x => ?_, fun d' hd => by cases hd⟩
  rw [ht x]
  simp [cvL]
 ·rename_i d
  cases hb : Nat.ble (d + 1) n with
  | false => rw [hb] at hp; cases hp
  | true =>
   rw [hb, cond_true, putT_eq] at hp
   refine ⟨_, hp, fun x => ?_, fun d' hd => by cases hd; exact Nat.le_of_ble_eq_true hb⟩
   rw [Tr.get_set]
   unfold cvL
   by_cases hx : x = d
   ·subst hx
    rw [if_pos rfl, if_pos ⟨rfl, rfl⟩]
    rfl
   ·rw [if_neg hx, if_neg (fun hh => hx (Option.some.inj hh.2).symm)]
    exact ht x
theorem gen_good {mk : Tr Nat} (hM : M = fun j => (mk.get j).getD 0) : ∀ (l : List Oper) (rv rvF : List Rec) (t tF : Tr RV), genD P call ops mk S0 base n l rv t = some (rvF, tF) -> (∀ k o, l[k]? = some o -> ops[rv.length + k]? = some o) -> Good P call ops M S0 base n t0 rv -> (∀ x, (t.get x).getD (.lit undef) = cvL t0 all rv x) ->
  Good P call ops M S0 base n t0 rvF /\ (∀ x, (tF.get x).getD (.lit undef) = cvL t0 all rvF x) /\ rvF.length = rv.length + l.length
 | [], rv, rvF, t, tF, hg, hl, hr, ht => by
  cases hg
  exact ⟨hr, ht, rfl⟩
 | o :: l, rv, rvF, t, tF, hg, hl, hr, ht => by
  have ho : ops[rv.length]? = some o := hl 0 o rfl
  have next : ∀ {r : RV} {kd : Kd}, putR t n o.dst r (fun t' => genD P call ops mk S0 base n l (⟨o.dst, r, kd⟩ :: rv) t') = some (rvF, tF) -> (KdOK P call ops M S0 base o t rv ⟨o.dst, r, kd⟩) -> Good P call ops M S0 base n t0 rvF /\ (∀ x, (tF.get x).getD (.lit undef) = cvL t0 all rvF x) /\ rvF.length = rv.length + (l.length + 1) := fun {r kd} hp hk => by
   obtain ⟨t', h1, h2, h3⟩ := put_good (kd := kd) hp ht
   obtain ⟨a, b, e⟩ := gen_good hM l _ rvF t' tF h1 (fun k o' hk' => by
    have := hl (k + 1) o' (by simpa using hk')
    rw [List.length_cons, show rv.length + 1 + k = rv.length + (k + 1) by omega]
    exact this) ⟨⟨o, t, ho, rfl, h3, ht, hk⟩, hr⟩ h2
   exact ⟨a, b, by rw [e, List.length_cons]; omega⟩
  unfold genD at hg
  dsimp only at hg
  split at hg <;> try cases hg
  ·rename_i hw
   exact next hg (.skip hw rfl rfl)
  ·rename_i hw
   split at hg
   ·split at hg <;> try cases hg
    rename_i r hp
    exact next hg (.pure hw hp rfl)
   ·split at hg <;> try cases hg
    rename_i r hp
    exact next hg (.read hw rfl)
   ·split at hg <;> try cases hg
    rename_i hnone
    rw [forceN_eq] at hg
    split at hg <;> try cases hg
    rename_i r ob hp
    exact next hg (.alloc ob hw hnone hp rfl)
   ·cases hb : chained ((mk.get rv.length).getD 0) (lastEff rv) with
    | false => rw [hb] at hg; cases hg
    | true =>
     rw [hb, cond_true] at hg
     split at hg <;> try cases hg
     rename_i r h' nx' hp
     refine next hg (.eff h' nx' hw (fun e he => ?_) ?_ rfl)
     ·rw [he] at hb
      rw [hM]
      exact hb
     ·rw [hM]
      exact hp
theorem Good.split : ∀ {rv : List Rec}, Good P call ops M S0 base n t0 rv -> ∀ {i : Nat}, i < rv.length -> ∃ pre q l, rv = pre ++ q :: l /\ l.length = i /\ GoodAt P call ops M S0 base n t0 l q /\ Good P call ops M S0 base n t0 l
 | [], _, i, hi => absurd hi (by simp)
 | q :: l, hg, i, hi => by
  rcases Nat.lt_or_ge i l.length with h | h
  ·obtain ⟨pre, q', l', h1, h2, h3, h4⟩ := Good.split hg.2 h
   exact ⟨q :: pre, q', l', by rw [h1]; rfl, h2, h3, h4⟩
  ·have : i = l.length := by simp at hi; omega
   exact ⟨[], q, l, rfl, this.symm, hg.1, hg.2⟩
/-! ### temporaries, by chosen operations -/
theorem cv_congr {L L' : Nat -> Bool} {x : Nat} : ∀ {rv : List Rec}, Good P call ops M S0 base n t0 rv -> (∀ k, k < rv.length -> dstOf ops k = some x -> L k = L' k) -> cvL t0 L rv x = cvL t0 L' rv x
 | [], _, _ => rfl
 | q :: l, hg, h => by
  have ih := cv_congr (L := L) (L' := L') hg.2 fun k hk => h k (by simp; omega)
  obtain ⟨o, t, h1, h2, _⟩ := hg.1
  unfold cvL
  rw [ih]
  by_cases hd : q.dst = some x
  ·have : dstOf ops l.length = some x := by simp [dstOf, h1, <- h2, hd]
   rw [h l.length (by simp) this]
  ·rw [if_neg (fun hh => hd hh.2), if_neg (fun hh => hd hh.2)]
theorem cv_drop {L : Nat -> Bool} {x : Nat} : ∀ {pre l : List Rec}, Good P call ops M S0 base n t0 (pre ++ l) -> (∀ k, l.length <= k -> k < (pre ++ l).length -> dstOf ops k = some x -> L k = false) -> cvL t0 L (pre ++ l) x = cvL t0 L l x
 | [], l, _, _ => rfl
 | q :: pre, l, hg, h => by
  have ih := cv_drop (L := L) hg.2 fun k hk hk2 => h k hk (by simp at hk2 |-; omega)
  obtain ⟨o, t, h1, h2, _⟩ := hg.1
  show (if L (pre ++ l).length = true /\ q.dst = some x then q.r else cvL t0 L (pre ++ l) x) = _
  rw [ih]
  rw [if_neg]
  rintro ⟨a, b⟩
  have h1' : ops[(pre ++ l).length]? = some o := h1
  have : dstOf ops (pre ++ l).length = some x := by
   unfold dstOf
   rw [h1', Option.bind_some, <- h2]
   exact b
  rw [h (pre ++ l).length (by simp) (by simp) this] at a
  cases a
/-! ### changes of memory, by chosen operations -/
theorem st_congr {L L' : Nat -> Bool} {nx0 : Nat} : ∀ {rv : List Rec}, (∀ k, k < rv.length -> effAt rv k = true -> L k = L' k) -> stE M S0 nx0 L rv = stE M S0 nx0 L' rv
 | [], _ => rfl
 | q :: l, h => by
  have ih := st_congr (L := L) (L' := L') (nx0 := nx0) (rv := l) fun k hk he => h k (by simp; omega) (by
   unfold effAt
   rw [if_neg (by omega)]
   exact he)
  unfold stE
  split
  ·rename_i h' n' hk
   rw [h l.length (by simp) (by unfold effAt; rw [if_pos rfl, hk])]
   cases L' l.length <;> simp only [cond_true, cond_false, ih]
  ·exact ih
theorem st_drop {L : Nat -> Bool} {nx0 : Nat} : ∀ {pre l : List Rec}, (∀ k, l.length <= k -> k < (pre ++ l).length -> effAt (pre ++ l) k = true -> L k = false) -> stE M S0 nx0 L (pre ++ l) = stE M S0 nx0 L l
 | [], l, _ => rfl
 | q :: pre, l, h => by
  have ih := st_drop (L := L) (nx0 := nx0) (pre := pre) (l := l) fun k hk hk2 he => h k hk (by simp at hk2 |-; omega) (by
   show effAt (q :: (pre ++ l)) k = true
   unfold effAt
   rw [if_neg (by omega)]
   exact he)
  show stE M S0 nx0 L (q :: (pre ++ l)) = _
  conv => lhs; unfold stE
  split
  ·rename_i h' n' hk
   have : L (pre ++ l).length = false := h (pre ++ l).length (by simp) (by simp) (by
    show effAt (q :: (pre ++ l)) _ = true
    unfold effAt
    rw [if_pos rfl, hk])
   rw [this, cond_false]
   exact ih
  ·exact ih
theorem eff_lt : ∀ {rv : List Rec} {k : Nat}, effAt rv k = true -> k < rv.length
 | [], k, h => by cases h
 | q :: l, k, h => by
  unfold effAt at h
  split at h
  ·simp; omega
  ·have := eff_lt h
   simp; omega
theorem alloc_lt : ∀ {rv : List Rec} {k : Nat} {ob : OB}, allocAt rv k = some ob -> k < rv.length
 | [], k, ob, h => by cases h
 | q :: l, k, ob, h => by
  unfold allocAt at h
  split at h
  ·simp; omega
  ·have := alloc_lt h
   simp; omega
theorem eff_app : ∀ {pre l : List Rec} {k : Nat}, k < l.length -> effAt (pre ++ l) k = effAt l k
 | [], l, k, _ => rfl
 | q :: pre, l, k, h => by
  show effAt (q :: (pre ++ l)) k = _
  conv => lhs; unfold effAt
  rw [if_neg (by simp; omega)]
  exact eff_app h
theorem alloc_app : ∀ {pre l : List Rec} {k : Nat}, k < l.length -> allocAt (pre ++ l) k = allocAt l k
 | [], l, k, _ => rfl
 | q :: pre, l, k, h => by
  show allocAt (q :: (pre ++ l)) k = _
  conv => lhs; unfold allocAt
  rw [if_neg (by simp; omega)]
  exact alloc_app h
theorem eff_at {pre l : List Rec} {q : Rec} : effAt (pre ++ q :: l) l.length = (match q.kd with
  | .eff _ _ => true
  | _ => false) := by
 rw [eff_app (by simp)]
 unfold effAt
 rw [if_pos rfl]
theorem alloc_at {pre l : List Rec} {q : Rec} : allocAt (pre ++ q :: l) l.length = (match q.kd with
  | .alloc _ ob => some ob
  | _ => none) := by
 rw [alloc_app (by simp)]
 unfold allocAt
 rw [if_pos rfl]
/-- the memory with chosen new blocks, read -/
theorem ht_get {L : Nat -> Bool} {em : Nat} {S : Hp} : ∀ {rv : List Rec}, Good P call ops M S0 base n t0 rv -> ∀ G, (htA L em S rv).get G = match (if base <= G /\ L (G - base) = true /\ em.testBit (G - base) = false then allocAt rv (G - base) else none) with
  | some ob => some ob
  | none => S.get G
 | [], _, G => by
  have : (if base <= G /\ L (G - base) = true /\ em.testBit (G - base) = false then allocAt [] (G - base) else none) = none := by
   split <;> rfl
  rw [this]
  rfl
 | q :: l, hg, G => by
  have ih := ht_get (L := L) (em := em) (S := S) hg.2 G
  obtain ⟨o, t, h1, h2, _, _, hk⟩ := hg.1
  unfold htA
  have low : base + l.length ≠ G -> (∀ G' ob, q.kd = .alloc G' ob -> True) -> (match (if base <= G /\ L (G - base) = true /\ em.testBit (G - base) = false then allocAt (q :: l) (G - base) else none) with
    | some ob => some ob
    | none => S.get G) = (match (if base <= G /\ L (G - base) = true /\ em.testBit (G - base) = false then allocAt l (G - base) else none) with
    | some ob => some ob
    | none => S.get G) := fun hne _ => by
   by_cases hc : base <= G /\ L (G - base) = true /\ em.testBit (G - base) = false
   ·rw [if_pos hc, if_pos hc]
    conv => lhs; unfold allocAt
    rw [if_neg (by omega)]
   ·rw [if_neg hc, if_neg hc]
  have flat : (∀ G' ob, q.kd ≠ .alloc G' ob) -> (match (if base <= G /\ L (G - base) = true /\ em.testBit (G - base) = false then allocAt (q :: l) (G - base) else none) with
    | some ob => some ob
    | none => S.get G) = (match (if base <= G /\ L (G - base) = true /\ em.testBit (G - base) = false then allocAt l (G - base) else none) with
    | some ob => some ob
    | none => S.get G) := fun hna => by
   by_cases hne : base + l.length = G
   ·have e : G - base = l.length := by omega
    have a1 : allocAt (q :: l) (G - base) = none := by
     unfold allocAt
     rw [if_pos e.symm]
     split
     ·rename_i G' ob hkd
      exact absurd hkd (hna _ _)
     ·rfl
    have a2 : allocAt l (G - base) = none := by
     cases ha : allocAt l (G - base) with
     | none => rfl
     | some ob =>
      have := alloc_lt ha
      omega
    rw [a1, a2]
   ·exact low hne fun _ _ _ => trivial
  split
  ·rename_i G' ob hkd
   have hG' : G' = base + l.length := by
    cases hk with
    | skip _ _ h => rw [hkd] at h; cases h
    | pure _ _ h => rw [hkd] at h; cases h
    | read _ h => rw [hkd] at h; cases h
    | alloc ob' _ _ _ h => rw [hkd] at h; cases h; rfl
    | eff _ _ _ _ _ h => rw [hkd] at h; cases h
   subst hG'
   cases hsel : L l.length && !em.testBit l.length with
   | true =>
    rw [cond_true, Tr.get_set]
    rw [Bool.and_eq_true, Bool.not_eq_true'] at hsel
    by_cases hne : G = base + l.length
    ·subst hne
     have e : base + l.length - base = l.length := by omega
     rw [if_pos rfl, if_pos ⟨by omega, by rw [e]; exact hsel.1, by rw [e]; exact hsel.2⟩]
     unfold allocAt
     rw [if_pos e.symm, hkd]
    ·rw [if_neg hne, low (fun hh => hne hh.symm) fun _ _ _ => trivial]
     exact ih
   | false =>
    rw [cond_false]
    by_cases hne : G = base + l.length
    ·subst hne
     have e : base + l.length - base = l.length := by omega
     have hnc : ¬ (base <= base + l.length /\ L (base + l.length - base) = true /\ em.testBit (base + l.length - base) = false) := by
      rw [e]
      rintro ⟨_, a, b⟩
      rw [a, b] at hsel
      cases hsel
     rw [if_neg hnc]
     rw [if_neg hnc] at ih
     exact ih
    ·rw [low (fun hh => hne hh.symm) fun _ _ _ => trivial]
     exact ih
  ·rename_i hna
   rw [flat hna]
   exact ih
end
end Go.Proofs.YtnlimlboedohgaaGreatDoor.Ax
