/-
  Relative values, trees of them, and how they read.
-/
import Derived.WalkKit
import Derived.Deep.MidRow
import Derived.Below
import Derived.Orders
import Derived.Test.YtnlimlboedohgaaGreatDoorAxTab
namespace Go.Proofs.YtnlimlboedohgaaGreatDoor.Ax
open Go.RowKit
set_option linter.unusedVariables false
set_option linter.unusedSimpArgs false

/-- a tree keyed by numbers -/
inductive Tr (α : Type) where
 | leaf
 | node (v : Option α) (l r : Tr α)
 deriving Inhabited
namespace Tr
variable {α : Type}
def get : Tr α -> Nat -> Option α
 | .leaf, _ => none
 | .node v l r, n => bif Nat.beq n 0 then v else bif Nat.beq (n % 2) 1 then l.get (n / 2) else r.get (n / 2 - 1)
/-- a key is set; what is built is handed on whole -/
def setK {β : Type} (x : α) : Nat -> Tr α -> Nat -> (Tr α -> β) -> β
 | 0, t, _, k => k t
 | f + 1, .leaf, n, k => bif Nat.beq n 0 then k (.node (some x) .leaf .leaf) else bif Nat.beq (n % 2) 1 then setK x f .leaf (n / 2) fun l => k (.node none l .leaf) else setK x f .leaf (n / 2 - 1) fun r => k (.node none .leaf r)
 | f + 1, .node v l r, n, k => bif Nat.beq n 0 then k (.node (some x) l r) else bif Nat.beq (n % 2) 1 then setK x f l (n / 2) fun l => k (.node v l r) else setK x f r (n / 2 - 1) fun r => k (.node v l r)
def set (t : Tr α) (n : Nat) (x : α) : Tr α := setK x (n + 1) t n id
theorem setK_id {β : Type} (x : α) : ∀ (f : Nat) (t : Tr α) (n : Nat) (k : Tr α -> β), setK x f t n k = k (setK x f t n id)
 | 0, t, n, k => rfl
 | f + 1, .leaf, n, k => by
  simp only [setK, id]
  cases Nat.beq n 0 <;> cases Nat.beq (n % 2) 1 <;> simp only [cond_true, cond_false]
  ·rw [setK_id x f _ _ (fun r => k (.node none .leaf r)), setK_id x f _ _ (fun r => Tr.node none .leaf r)]
  ·rw [setK_id x f _ _ (fun l => k (.node none l .leaf)), setK_id x f _ _ (fun l => Tr.node none l .leaf)]
 | f + 1, .node v l r, n, k => by
  simp only [setK, id]
  cases Nat.beq n 0 <;> cases Nat.beq (n % 2) 1 <;> simp only [cond_true, cond_false]
  ·rw [setK_id x f _ _ (fun r => k (.node v l r)), setK_id x f _ _ (fun r => Tr.node v l r)]
  ·rw [setK_id x f _ _ (fun l => k (.node v l r)), setK_id x f _ _ (fun l => Tr.node v l r)]
theorem get_leaf (n : Nat) : (Tr.leaf : Tr α).get n = none := rfl
theorem get_setK (x : α) : ∀ (f : Nat) (t : Tr α) (n m : Nat), n < f -> (setK x f t n id).get m = if m = n then some x else t.get m
 | 0, t, n, m, h => absurd h (by omega)
 | f + 1, t, n, m, h => by
  have e0 : ∀ k, Nat.beq k 0 = decide (k = 0) := fun k => by cases k <;> rfl
  have e1 : ∀ k, Nat.beq k 1 = decide (k = 1) := fun k => by
   rcases k with _ | _ | k <;> simp [Nat.beq]
  rcases Nat.eq_zero_or_pos n with rfl | hn
  ·cases t <;> simp only [setK, get, id, e0, decide_true, cond_true] <;> rcases Nat.eq_zero_or_pos m with rfl | hm
   ·simp [get]
   ·have : ¬ (m = 0) := by omega
    simp [get, e0, this]
   ·simp [get]
   ·have : ¬ (m = 0) := by omega
    simp [get, e0, this]
  ·have hn0 : ¬ (n = 0) := by omega
   by_cases h2 : n % 2 = 1
   ·have hr : ∀ s : Tr α, (setK x f s (n / 2) id).get (m / 2) = if m / 2 = n / 2 then some x else s.get (m / 2) := fun s => get_setK x f s (n / 2) (m / 2) (by omega)
    cases t <;> simp only [setK, id, e0, e1, hn0, h2, decide_false, decide_true, cond_false, cond_true] <;> rw [setK_id] <;> simp only [get, e0, e1, get_leaf]
    ·rcases Nat.eq_zero_or_pos m with rfl | hm
     ·simp; omega
     ·have hm0 : ¬ (m = 0) := by omega
      simp only [hm0, decide_false, cond_false]
      by_cases h3 : m % 2 = 1
      ·simp only [h3, decide_true, cond_true, hr, get_leaf]
       have : (m / 2 = n / 2) = (m = n) := by apply propext; omega
       simp only [this]
      ·simp only [h3, decide_false, cond_false]
       rw [if_neg (by omega)]
    ·rcases Nat.eq_zero_or_pos m with rfl | hm
     ·simp only [decide_true, cond_true]
      rw [if_neg (by omega)]
     ·have hm0 : ¬ (m = 0) := by omega
      simp only [hm0, decide_false, cond_false]
      by_cases h3 : m % 2 = 1
      ·simp only [h3, decide_true, cond_true, hr]
       have : (m / 2 = n / 2) = (m = n) := by apply propext; omega
       simp only [this]
      ·simp only [h3, decide_false, cond_false]
       rw [if_neg (by omega)]
   ·have hr : ∀ s : Tr α, (setK x f s (n / 2 - 1) id).get (m / 2 - 1) = if m / 2 - 1 = n / 2 - 1 then some x else s.get (m / 2 - 1) := fun s => get_setK x f s (n / 2 - 1) (m / 2 - 1) (by omega)
    cases t <;> simp only [setK, id, e0, e1, hn0, h2, decide_false, decide_true, cond_false, cond_true] <;> rw [setK_id] <;> simp only [get, e0, e1, get_leaf]
    ·rcases Nat.eq_zero_or_pos m with rfl | hm
     ·simp; omega
     ·have hm0 : ¬ (m = 0) := by omega
      simp only [hm0, decide_false, cond_false]
      by_cases h3 : m % 2 = 1
      ·simp only [h3, decide_true, cond_true]
       rw [if_neg (by omega)]
      ·simp only [h3, decide_false, cond_false, hr, get_leaf]
       have : (m / 2 - 1 = n / 2 - 1) = (m = n) := by apply propext; omega
       simp only [this]
    ·rcases Nat.eq_zero_or_pos m with rfl | hm
     ·simp only [decide_true, cond_true]
      rw [if_neg (by omega)]
     ·have hm0 : ¬ (m = 0) := by omega
      simp only [hm0, decide_false, cond_false]
      by_cases h3 : m % 2 = 1
      ·simp only [h3, decide_true, cond_true]
       rw [if_neg (by omega)]
      ·simp only [h3, decide_false, cond_false, hr]
       have : (m / 2 - 1 = n / 2 - 1) = (m = n) := by apply propext; omega
       simp only [this]
theorem get_set (t : Tr α) (n m : Nat) (x : α) : (t.set n x).get m = if m = n then some x else t.get m := get_setK x (n + 1) t n m (by omega)
end Tr

/-- values, the run's own blocks by their own numbers: a group's number, and which of the group's members -/
inductive RV where
 | lit (v : Value)
 | str (l : List Nat)
 | opq (i : Nat)
 | ptr (G e off : Nat)
 | sl (G e off len sz : Nat)
 /-- an empty slice without room -/
 | s0 (G e off : Nat)
 /-- an empty slice, not nil -/
 | se
 | agg (l : List RV)
 | tup (l : List RV)
 | ifc (t : TypeId) (v : RV)
 /-- a function with arguments at hand, and what it captures -/
 | clo (f : FuncId) (a l : List RV)
 | mp (G : Nat)
 /-- what a range over a function hands to it -/
 | yld (G : Nat)
 deriving Inhabited
def ofCodes (l : List Nat) : ByteArray := ⟨(l.map UInt8.ofNat).toArray⟩
def codes (s : ByteArray) : List Nat := s.data.toList.map UInt8.toNat
theorem ofCodes_codes (s : ByteArray) : ofCodes (codes s) = s := by
 simp [ofCodes, codes, Function.comp_def]
theorem codes_lt (s : ByteArray) : ∀ x ∈ codes s, x < 256 := fun x hx => by
 obtain ⟨b, _, rfl⟩ := List.mem_map.1 hx
 exact b.toNat_lt
/-- which real block an own one is, and how many cells that has -/
abbrev Gm := Nat -> Nat -> Option (Nat × Nat)
def Ext (g g' : Gm) : Prop := ∀ G e x, g G e = some x -> g' G e = some x
theorem Ext.refl (g : Gm) : Ext g g := fun _ _ _ h => h
theorem Ext.trans {a b c : Gm} (h : Ext a b) (k : Ext b c) : Ext a c := fun G e x hx => k G e x (h G e x hx)
inductive R (g : Gm) (env : Nat -> Value) : RV -> Value -> Prop
 | lit (v : Value) : R g env (.lit v) v
 | str {l : List Nat} (h : ∀ x ∈ l, x < 256) : R g env (.str l) (.string (ofCodes l))
 | opq (i : Nat) (h1 : (env i).cells = #[env i]) (h2 : (env i).oneCell' = true) : R g env (.opq i) (env i)
 | ptr {G e off q n : Nat} (h : g G e = some (q, n)) : R g env (.ptr G e off) (.pointer (some ⟨q, off, none⟩))
 | sl {G e off len sz q n cap : Nat} (h : g G e = some (q, n)) (hc : len <= cap) (hn : off + cap * sz <= n) : R g env (.sl G e off len sz) (.slice (some ⟨q, off, none⟩) len cap)
 | s0 {G e off q n : Nat} (h : g G e = some (q, n)) : R g env (.s0 G e off) (.slice (some ⟨q, off, none⟩) 0 0)
 | se (a : Addr) (cap : Nat) : R g env .se (.slice (some a) 0 cap)
 | agg {l : List RV} {vs : Array Value} (hn : l.length = vs.size) (h : ∀ i (h1 : i < l.length) (h2 : i < vs.size), R g env l[i] vs[i]) : R g env (.agg l) (.agg vs)
 | tup {l : List RV} {vs : Array Value} (hn : l.length = vs.size) (h : ∀ i (h1 : i < l.length) (h2 : i < vs.size), R g env l[i] vs[i]) : R g env (.tup l) (.tuple vs)
 | ifc {t : TypeId} {r : RV} {v : Value} (h : R g env r v) : R g env (.ifc t r) (.iface t v)
 | clo {f : FuncId} {a l : List RV} {us vs : Array Value} (hm : a.length = us.size) (k : ∀ i (h1 : i < a.length) (h2 : i < us.size), R g env a[i] us[i]) (hn : l.length = vs.size) (h : ∀ i (h1 : i < l.length) (h2 : i < vs.size), R g env l[i] vs[i]) : R g env (.clo f a l) (.func (.func f) us vs)
 | mp {G q n : Nat} (h : g G 0 = some (q, n)) : R g env (.mp G) (.map (some q))
 | yld {G q n : Nat} (h : g G 0 = some (q, n)) : R g env (.yld G) (.func (.yield q) #[] #[])
theorem R.mono {g g' : Gm} {env : Nat -> Value} {r : RV} {v : Value} (h : R g env r v) (hg : Ext g g') : R g' env r v := by
 induction h with
 | lit v => exact .lit v
 | str h => exact .str h
 | opq i h1 h2 => exact .opq i h1 h2
 | ptr h => exact .ptr (hg _ _ _ h)
 | sl h hc hn => exact .sl (hg _ _ _ h) hc hn
 | s0 h => exact .s0 (hg _ _ _ h)
 | se a cap => exact .se a cap
 | agg hn _ ih => exact .agg hn ih
 | tup hn _ ih => exact .tup hn ih
 | ifc _ ih => exact .ifc ih
 | clo hm _ hn _ ih1 ih2 => exact .clo hm ih1 hn ih2
 | mp h => exact .mp (hg _ _ _ h)
 | yld h => exact .yld (hg _ _ _ h)
/-- a value known whole, strings by their bytes -/
def ofV : Value -> RV
 | .string s => .str (codes s)
 | v => .lit v
theorem ofV_R (g : Gm) (env : Nat -> Value) (v : Value) : R g env (ofV v) v := by
 cases v with
 | string s =>
  have := R.str (g := g) (env := env) (codes_lt s)
  rw [ofCodes_codes] at this
  exact this
 | _ => exact .lit _
/-- lists of values -/
structure RL (g : Gm) (env : Nat -> Value) (l : List RV) (vs : List Value) : Prop where
 len : l.length = vs.length
 at_ : ∀ i (h1 : i < l.length) (h2 : i < vs.length), R g env l[i] vs[i]
section
variable {g g' : Gm} {env : Nat -> Value}
theorem RL.mono {l : List RV} {vs : List Value} (h : RL g env l vs) (hg : Ext g g') : RL g' env l vs := ⟨h.len, fun i h1 h2 => (h.at_ i h1 h2).mono hg⟩
theorem RL.nil : RL g env [] [] := ⟨rfl, fun i h => absurd h (by simp)⟩
theorem RL.cons {r : RV} {v : Value} {l : List RV} {vs : List Value} (h : R g env r v) (hl : RL g env l vs) : RL g env (r :: l) (v :: vs) := by
 refine ⟨by simp [hl.len], fun i h1 h2 => ?_⟩
 rcases i with _ | i
 ·exact h
 ·exact hl.at_ i (by simpa using h1) (by simpa using h2)
theorem RL.tail {r : RV} {v : Value} {rs : List RV} {vs : List Value} (h : RL g env (r :: rs) (v :: vs)) : R g env r v /\ RL g env rs vs :=
 ⟨h.at_ 0 (by simp) (by simp), ⟨by have := h.len; simpa using this, fun i k1 k2 => h.at_ (i + 1) (by simpa using k1) (by simpa using k2)⟩⟩
theorem RL.set {cs : List RV} {vs : List Value} (hc : RL g env cs vs) {r : RV} {v : Value} (hr : R g env r v) (i : Nat) : RL g env (cs.set i r) (vs.set i v) := by
 refine ⟨by simp [hc.len], fun j h1 h2 => ?_⟩
 rw [List.getElem_set, List.getElem_set]
 split
 ·exact hr
 ·exact hc.at_ j (by simpa using h1) (by simpa using h2)
theorem RL.lits (vs : List Value) : RL g env (vs.map ofV) vs := ⟨by simp, fun i h1 h2 => by simpa using ofV_R _ _ _⟩
theorem RL.append {l m : List RV} {vs us : List Value} (h1 : RL g env l vs) (h2 : RL g env m us) : RL g env (l ++ m) (vs ++ us) := by
 induction l generalizing vs with
 | nil =>
  have : vs = [] := List.eq_nil_of_length_eq_zero (by rw [<- h1.len]; rfl)
  subst this
  exact h2
 | cons r l ih =>
  rcases vs with _ | ⟨v, vs⟩
  ·have := h1.len
   simp at this
  ·exact .cons (h1.at_ 0 (by simp) (by simp)) (ih ⟨by have := h1.len; simpa using this, fun i k1 k2 => h1.at_ (i + 1) (by simpa using k1) (by simpa using k2)⟩)
theorem RL.take {l : List RV} {vs : List Value} (h : RL g env l vs) (n : Nat) : RL g env (l.take n) (vs.take n) :=
 ⟨by simp [h.len], fun i h1 h2 => by
  rw [List.getElem_take, List.getElem_take]
  exact h.at_ i (by simp at h1; omega) (by simp at h2; omega)⟩
theorem RL.drop {l : List RV} {vs : List Value} (h : RL g env l vs) (n : Nat) : RL g env (l.drop n) (vs.drop n) :=
 ⟨by simp [h.len], fun i h1 h2 => by
  rw [List.getElem_drop, List.getElem_drop]
  exact h.at_ (n + i) (by simp at h1; omega) (by simp at h2; omega)⟩
end

/-- a frame's temporaries -/
structure RF (g : Gm) (env : Nat -> Value) (t : Tr RV) (n : Nat) (a : Act) : Prop where
 size : a.tmps.size = n
 at_ : ∀ i, R g env ((t.get i).getD (.lit undef)) (a.tmps.getD i undef)
theorem RF.mono {g g' : Gm} {env : Nat -> Value} {t : Tr RV} {n : Nat} {a : Act} (h : RF g env t n a) (hg : Ext g g') : RF g' env t n a := ⟨h.size, fun i => (h.at_ i).mono hg⟩
def evalR (t : Tr RV) : Operand -> RV
 | .tmp i => match t.get i with
  | some r => r
  | none => .lit undef
 | .const v => ofV v
 | .global b => .lit (.pointer (some ⟨b, 0, none⟩))
 | .func f => .lit (.func (.func f) #[] #[])
theorem evalR_R {g : Gm} {env : Nat -> Value} {t : Tr RV} {n : Nat} {a : Act} (h : RF g env t n a) (x : Operand) : R g env (evalR t x) (a.eval x) := by
 cases x with
 | tmp i =>
  have := h.at_ i
  show R g env (match t.get i with | some r => r | none => .lit undef) (a.tmps.getD i undef)
  cases ht : t.get i with
  | none => rw [ht] at this; exact this
  | some r => rw [ht] at this; exact this
 | const v => exact ofV_R _ _ _
 | global b => exact .lit _
 | func f => exact .lit _
/-- a temporary is set -/
theorem RF.put {g : Gm} {env : Nat -> Value} {t : Tr RV} {n : Nat} {a : Act} (h : RF g env t n a) {d : Nat} (hd : d < n) {r : RV} {v : Value} (hr : R g env r v) : RF g env (t.set d r) n (a.put (some d) v) := by
 refine ⟨by simp [Act.put, h.size], fun i => ?_⟩
 rw [Tr.get_set]
 by_cases hi : i = d
 ·subst hi
  have hlt : i < a.tmps.size := by rw [h.size]; exact hd
  have e : (a.put (some i) v).tmps.getD i undef = v := by simp [Act.put, hlt]
  rw [e, if_pos rfl]
  exact hr
 ·have e : (a.put (some d) v).tmps.getD i undef = a.tmps.getD i undef := by
   have : d ≠ i := fun e => hi e.symm
   simp [Act.put, Array.getElem?_setIfInBounds_ne this]
  rw [e, if_neg hi]
  exact h.at_ i
theorem RF.put_none {g : Gm} {env : Nat -> Value} {t : Tr RV} {n : Nat} {a : Act} (h : RF g env t n a) (v : Value) : RF g env t n (a.put none v) := h
end Go.Proofs.YtnlimlboedohgaaGreatDoor.Ax
