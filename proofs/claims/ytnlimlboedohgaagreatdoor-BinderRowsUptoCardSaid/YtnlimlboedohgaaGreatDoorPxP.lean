import Derived.Test.YtnlimlboedohgaaGreatDoorLnA
import Derived.Lib.ItoaNum
import Derived.Lib.Join
/-
  Expressions in plain Lean: what is printable, as the program and as the reference have it, and its text. (Printed by gen_pxplain.py.)
-/
namespace Go.Proofs.YtnlimlboedohgaaGreatDoor.Px
open Go Go.RowKit
set_option linter.unusedVariables false
set_option linter.unusedSimpArgs false
abbrev S := List UInt8
inductive X where
 | mk (op int vk vi : Int) (vs nm : S) (args : List X)
def X.op : X -> Int | .mk o _ _ _ _ _ _ => o
def X.vk : X -> Int | .mk _ _ k _ _ _ _ => k
def X.vi : X -> Int | .mk _ _ _ i _ _ _ => i
def X.nm : X -> S | .mk _ _ _ _ _ n _ => n
def X.args : X -> List X | .mk _ _ _ _ _ _ l => l
mutual
def nodes : X -> Nat
 | .mk _ _ _ _ _ _ l => nodesL l + 1
def nodesL : List X -> Nat
 | [] => 0
 | x :: l => nodes x + nodesL l
end
mutual
def dep : X -> Nat
 | .mk _ _ _ _ _ _ l => depL l + 1
def depL : List X -> Nat
 | [] => 0
 | x :: l => max (dep x) (depL l)
end
def signL (op : Int) : S :=
 if op = 5 then [65, 78, 68] else
 if op = 6 then [79, 82] else
 if op = 7 then [61] else
 if op = 8 then [60, 62] else
 if op = 9 then [60] else
 if op = 10 then [60, 61] else
 if op = 11 then [62] else
 if op = 12 then [62, 61] else
 if op = 13 then [43] else
 if op = 14 then [45] else
 if op = 15 then [42] else
 if op = 16 then [47] else
 if op = 17 then [37] else
 if op = 19 then [124, 124] else
 if op = 20 then [76, 69, 78, 71, 84, 72] else
 if op = 22 then [73, 70] else
 if op = 23 then [67, 79, 65, 76, 69, 83, 67, 69] else
 []
def boundL (n : Int) : S :=
 if n = 0 then [86, 65, 76, 73, 68, 70, 82, 79, 77] else
 if n = 1 then [86, 65, 76, 73, 68, 84, 79] else
 if n = 2 then [83, 89, 83, 84, 69, 77, 70, 82, 79, 77] else
 if n = 3 then [83, 89, 83, 84, 69, 77, 84, 79] else
 if n = 4 then [84, 88] else
 []
def relL (n : Int) : S :=
 if n = 0 then [66, 69, 70, 79, 82, 69] else
 if n = 1 then [77, 69, 69, 84, 83] else
 if n = 2 then [79, 86, 69, 82, 76, 65, 80, 83] else
 if n = 3 then [83, 84, 65, 82, 84, 83] else
 if n = 4 then [68, 85, 82, 73, 78, 71] else
 if n = 5 then [70, 73, 78, 73, 83, 72, 69, 83] else
 if n = 6 then [69, 81, 85, 65, 76, 83] else
 if n = 7 then [70, 73, 78, 73, 83, 72, 69, 68, 66, 89] else
 if n = 8 then [67, 79, 78, 84, 65, 73, 78, 83] else
 if n = 9 then [83, 84, 65, 82, 84, 69, 68, 66, 89] else
 if n = 10 then [79, 86, 69, 82, 76, 65, 80, 80, 69, 68, 66, 89] else
 if n = 11 then [77, 69, 84, 66, 89] else
 if n = 12 then [65, 70, 84, 69, 82] else
 []
def maxN : Int := 1125899906842624
def validV (vk vi : Int) (vs : S) : Bool :=
 if vk = 0 then decide (vi = 0) && vs.isEmpty else
 if vk = 1 then vs.isEmpty && (decide (-maxN <= vi) && decide (vi <= maxN)) else
 if vk = 2 then decide (vi = 0) && (decide (vs.length <= 200) && vs.all (fun c => !badB c.toNat)) else
 if vk = 3 then vs.isEmpty && (decide (vi = 0) || decide (vi = 1)) else false
def itoaL (n : Int) : S := Lib.itoa n
def litL (vk vi : Int) (vs : S) : S :=
 if validV vk vi vs then
  if vk = 1 then itoaL vi else
  if vk = 2 then quoteL vs else
  if vk = 3 then (if vi = 1 then [84, 82, 85, 69] else [70, 65, 76, 83, 69]) else [78, 85, 76, 76]
 else []
def nullV (vk vi : Int) (vs : S) : Bool := decide (vk = 0) && (decide (vi = 0) && vs.isEmpty)
def number (x : X) : Bool := decide (x.op = 1) && decide (x.vk = 1)
def levelOf (op vk vi : Int) : Int :=
 if op = 6 then 1 else if op = 5 then 2 else if op = 4 then 3 else
 if op = 7 \/ op = 8 \/ op = 9 \/ op = 10 \/ op = 11 \/ op = 12 \/ op = 21 \/ op = 25 then 4 else
 if op = 13 \/ op = 14 \/ op = 19 then 5 else if op = 15 \/ op = 16 \/ op = 17 then 6 else if op = 18 then 7 else
 if op = 1 /\ vk = 1 /\ vi < 0 then 7 else 8
def level (x : X) : Int := levelOf x.op x.vk x.vi
def argsB (op : Int) (n : Nat) : Bool :=
 if op = 1 \/ op = 3 \/ op = 26 then decide (n = 0) else
 if op = 4 \/ op = 18 \/ op = 20 \/ op = 21 then decide (n = 1) else
 if op = 6 \/ op = 5 then decide (2 <= n) else
 if op = 22 then decide (n = 3) else
 if op = 23 then decide (1 <= n) else
 if op = 7 \/ op = 8 \/ op = 9 \/ op = 10 \/ op = 11 \/ op = 12 \/ op = 13 \/ op = 14 \/ op = 19 \/ op = 15 \/ op = 16 \/ op = 17 \/ op = 25 then decide (n = 2) else false
/-- before the first point -/
def preDot (s : S) : S := s.takeWhile (fun c => c != 46)
def hasDot (s : S) : Bool := s.contains 46
def postDot (s : S) : S := s.drop ((preDot s).length + 1)
/-- a name, or two with a point between them -/
def refB (s : S) : Bool := if hasDot s then nameB (preDot s) && nameB (postDot s) else nameB s
def restB (op int vk vi : Int) (vs nm : S) : Bool :=
 if op = 1 then validV vk vi vs && (decide (int = 0) && nm.isEmpty) else
 if op = 3 then refB nm && (decide (int = 0) && nullV vk vi vs) else
 if op = 26 then (nameB nm && !(boundL int).isEmpty) && nullV vk vi vs else
 if op = 25 then !(relL int).isEmpty && (nm.isEmpty && nullV vk vi vs) else
 decide (int = 0) && (nm.isEmpty && nullV vk vi vs)
mutual
/-- printable, as the program has it -/
def pOk : X -> Bool
 | .mk op int vk vi vs nm l => argsB op l.length && (pOks (decide (op = 25)) l && restB op int vk vi vs nm)
def pOks (r : Bool) : List X -> Bool
 | [] => true
 | x :: l => (pOk x && !(r && (!decide (x.op = 3) || !nameB x.nm))) && pOks r l
end
def tableB (x : X) : Bool := decide (x.op = 3) && !hasDot x.nm
/-- the least and the greatest number of arguments -/
def arity (op : Int) : Int × Int :=
 if op = 1 \/ op = 2 then (0, 0) else if op = 4 \/ op = 18 \/ op = 20 \/ op = 21 then (1, 1) else if op = 5 \/ op = 6 then (2, 1099511627776) else
 if op = 7 \/ op = 8 \/ op = 9 \/ op = 10 \/ op = 11 \/ op = 12 \/ op = 13 \/ op = 14 \/ op = 15 \/ op = 16 \/ op = 17 \/ op = 19 then (2, 2) else
 if op = 22 then (3, 3) else if op = 23 then (1, 1099511627776) else if op = 24 then (4, 4) else (-1, 0)
def formedB (op int vk vi : Int) (vs nm : S) (n : Nat) : Bool :=
 (!decide ((arity op).1 < 0) && (!decide ((n : Int) < (arity op).1) && (!decide ((arity op).2 < (n : Int)) && nm.isEmpty))) &&
 (if op = 1 then decide (int = 0) && validV vk vi vs else decide (int = 0) && nullV vk vi vs)
def ownB (op int vk vi : Int) (vs nm : S) (l : List X) : Bool :=
 if op = 3 then decide (int = 0) && (nullV vk vi vs && (decide (l.length = 0) && refB nm)) else
 if op = 25 then decide (0 <= int) && (decide (int < 13) && (nullV vk vi vs && (nm.isEmpty && (decide (l.length = 2) && l.all tableB)))) else
 if op = 26 then decide (0 <= int) && (decide (int < 5) && (nullV vk vi vs && (decide (l.length = 0) && nameB nm))) else
 if op = 2 \/ op = 24 then false else formedB op int vk vi vs nm l.length
mutual
/-- printable, as the reference has it -/
def rOk : X -> Bool
 | .mk op int vk vi vs nm l => ownB op int vk vi vs nm l && rOks l
def rOks : List X -> Bool
 | [] => true
 | x :: l => rOk x && rOks l
end
def paren (b : Bool) (s : S) : S := if b then 40 :: (s ++ [41]) else s
/-- an operator's least levels of its operands -/
def firstOf (n : Int) : Int := if n = 1 \/ n = 2 \/ n = 4 then n + 1 else n
def chain (sg : S) : List S -> List S -> S
 | a :: _, _ :: bs => Lib.join (a :: bs) (32 :: (sg ++ [32]))
 | _, _ => []
/-- an expression's text out of those of its operands -/
def txtOf (op int vk vi : Int) (vs nm : S) (l : List X) (o : Int -> List S) : S :=
 if op = 1 then litL vk vi vs else
 if op = 3 then nm else
 if op = 26 then boundL int ++ 40 :: (nm ++ [41]) else
 if op = 25 then ((l.head?.map X.nm).getD []) ++ 32 :: (relL int ++ 32 :: (((l.drop 1).head?.map X.nm).getD [])) else
 if op = 21 then (o 5).headD [] ++ [32, 73, 83, 32, 78, 85, 76, 76] else
 if op = 4 then [78, 79, 84, 32] ++ (o 3).headD [] else
 if op = 18 then (if (l.head?.map number).getD false then [45, 40] ++ ((o 0).headD [] ++ [41]) else 45 :: (o 8).headD []) else
 if op = 20 \/ op = 22 \/ op = 23 then signL op ++ 40 :: (Lib.join (o 0) [44, 32] ++ [41]) else
 chain (signL op) (o (firstOf (levelOf op vk vi))) (o (levelOf op vk vi + 1))
mutual
def txt : X -> S
 | .mk op int vk vi vs nm l => txtOf op int vk vi vs nm l fun n => opds n l
def opds (least : Int) : List X -> List S
 | [] => []
 | x :: l => paren (decide (level x < least)) (txt x) :: opds least l
end
def opd (least : Int) (x : X) : S := paren (decide (level x < least)) (txt x)
theorem opds_map (least : Int) (l : List X) : opds least l = l.map (opd least) := by
 induction l with
 | nil => rfl
 | cons x l ih => rw [opds, ih]; rfl
theorem level_pos (x : X) : 1 <= level x := by
 unfold level levelOf
 repeat' split
 all_goals omega
theorem opd_zero (x : X) : opd 0 x = txt x := by
 unfold opd paren
 have := level_pos x
 rw [decide_eq_false (by omega)]
 rfl
theorem pOks_iff {r : Bool} : ∀ {l : List X}, pOks r l = l.all (fun x => pOk x && !(r && (!decide (x.op = 3) || !nameB x.nm)))
 | [] => rfl
 | x :: l => by rw [pOks, List.all_cons, pOks_iff]
theorem rOks_iff : ∀ {l : List X}, rOks l = l.all rOk
 | [] => rfl
 | x :: l => by rw [rOks, List.all_cons, rOks_iff]
theorem nodesL_mem {x : X} : ∀ {l : List X}, x ∈ l -> nodes x <= nodesL l
 | y :: l, h => by
  rw [nodesL]
  rcases List.mem_cons.1 h with rfl | h
  ·omega
  ·have := nodesL_mem h
   omega
theorem nodes_pos (x : X) : 1 <= nodes x := by cases x; rw [nodes]; omega
theorem nodesL_len : ∀ (l : List X), l.length <= nodesL l
 | [] => by simp
 | x :: l => by
  have := nodesL_len l
  have := nodes_pos x
  rw [nodesL, List.length_cons]
  omega
/-! ### what is printable -/
theorem name_nodot {s : S} (h : nameB s = true) : hasDot s = false := by
 cases hd : hasDot s with
 | false => rfl
 | true =>
  unfold hasDot at hd
  have hm : (46 : UInt8) ∈ s := by simpa using hd
  rw [name_bad hm (by decide)] at h
  cases h
theorem bound_in (n : Int) : (!(boundL n).isEmpty) = (decide (0 <= n) && decide (n < 5)) := by
 unfold boundL
 repeat' split
 all_goals (first | (subst_vars; rfl) | skip)
 rw [show (decide (0 <= n) && decide (n < 5)) = decide (0 <= n /\ n < 5) from (Bool.decide_and ..).symm, decide_eq_false (by omega)]
 rfl
theorem rel_in (n : Int) : (!(relL n).isEmpty) = (decide (0 <= n) && decide (n < 13)) := by
 by_cases h : 0 <= n /\ n < 13
 ·obtain ⟨m, rfl⟩ := Int.eq_ofNat_of_zero_le h.1
  have hm : m < 13 := by omega
  have key : ∀ m : Nat, m < 13 -> (!(relL (m : Int)).isEmpty) = (decide (0 <= (m : Int)) && decide ((m : Int) < 13)) := by decide +kernel
  exact key m hm
 ·have e : relL n = [] := by
   unfold relL
   repeat rw [if_neg (by omega)]
  rw [e, show (decide (0 <= n) && decide (n < 13)) = decide (0 <= n /\ n < 13) from (Bool.decide_and ..).symm, decide_eq_false h]
  rfl
theorem arity_args (op : Int) (n : Nat) (hn : n <= 1099511627776) (h3 : op ≠ 3) (h25 : op ≠ 25) (h26 : op ≠ 26) (h2 : op ≠ 2) (h24 : op ≠ 24) : argsB op n = (!decide ((arity op).1 < 0) && (!decide ((n : Int) < (arity op).1) && !decide ((arity op).2 < (n : Int)))) := by
 unfold argsB arity
 rw [Bool.eq_iff_iff]
 repeat' split
 all_goals (simp; try omega)
theorem rel_args {x : X} (h : pOk x = rOk x) : (pOk x && !(true && (!decide (x.op = 3) || !nameB x.nm))) = (tableB x && rOk x) := by
 rw [h]
 rw [Bool.eq_iff_iff]
 unfold tableB
 simp only [Bool.true_and, Bool.and_eq_true, Bool.not_eq_true', Bool.or_eq_false_iff, Bool.not_eq_false', decide_eq_true_eq]
 constructor
 ·rintro ⟨h1, h2, h3⟩
  exact ⟨⟨h2, name_nodot h3⟩, h1⟩
 ·rintro ⟨⟨h2, h3⟩, h1⟩
  refine ⟨h1, h2, ?_⟩
  obtain ⟨op, int, vk, vi, vs, nm, l⟩ := x
  have h2' : op = 3 := h2
  have h3' : hasDot nm = false := h3
  subst h2'
  rw [rOk] at h1
  unfold ownB refB at h1
  rw [h3'] at h1
  simp at h1
  exact h1.1.2.2.2
theorem ok_eq : ∀ (N : Nat) (x : X), nodes x <= N -> N <= 1000000 -> pOk x = rOk x
 | 0, x, h, _ => absurd (nodes_pos x) (by omega)
 | N + 1, .mk op int vk vi vs nm l, h, hN => by
  rw [nodes] at h
  have hl := nodesL_len l
  have ih : ∀ x ∈ l, pOk x = rOk x := fun x hx => ok_eq N x (by have := nodesL_mem hx; omega) (by omega)
  rw [pOk, rOk, pOks_iff, rOks_iff]
  by_cases h25 : op = 25
  ·subst h25
   have e1 : (l.all fun x => pOk x && !(decide ((25 : Int) = 25) && (!decide (x.op = 3) || !nameB x.nm))) = (l.all tableB && l.all rOk) := by
    clear h hl
    induction l with
    | nil => rfl
    | cons x l ihl =>
     rw [List.all_cons, List.all_cons, List.all_cons, ihl (fun y hy => ih y (List.mem_cons_of_mem _ hy))]
     have := rel_args (ih x (List.mem_cons_self ..))
     rw [show decide ((25 : Int) = 25) = true from rfl, this]
     cases tableB x <;> cases rOk x <;> cases l.all tableB <;> cases l.all rOk <;> rfl
   rw [e1]
   have e2 : restB 25 int vk vi vs nm = (!(relL int).isEmpty && (nm.isEmpty && nullV vk vi vs)) := rfl
   have e3 : argsB 25 l.length = decide (l.length = 2) := rfl
   have e4 : ownB 25 int vk vi vs nm l = (decide (0 <= int) && (decide (int < 13) && (nullV vk vi vs && (nm.isEmpty && (decide (l.length = 2) && l.all tableB))))) := rfl
   rw [e2, e3, e4, rel_in]
   cases decide (0 <= int) <;> cases decide (int < 13) <;> cases nullV vk vi vs <;> cases nm.isEmpty <;> cases decide (l.length = 2) <;> cases l.all tableB <;> cases l.all rOk <;> rfl
  ·have e1 : (l.all fun x => pOk x && !(decide (op = 25) && (!decide (x.op = 3) || !nameB x.nm))) = l.all rOk := by
    rw [Bool.eq_iff_iff, List.all_eq_true, List.all_eq_true]
    refine forall_congr' fun x => forall_congr' fun hx => ?_
    rw [decide_eq_false h25, Bool.false_and, Bool.not_false, Bool.and_true, ih x hx]
   rw [e1]
   have key : (argsB op l.length && restB op int vk vi vs nm) = ownB op int vk vi vs nm l := by
    unfold ownB
    by_cases h3 : op = 3
    ·subst h3
     rw [if_pos rfl]
     have e3 : argsB 3 l.length = decide (l.length = 0) := rfl
     have e2 : restB 3 int vk vi vs nm = (refB nm && (decide (int = 0) && nullV vk vi vs)) := rfl
     rw [e2, e3]
     cases decide (l.length = 0) <;> cases refB nm <;> cases decide (int = 0) <;> cases nullV vk vi vs <;> rfl
    ·rw [if_neg h3, if_neg h25]
     by_cases h26 : op = 26
     ·subst h26
      rw [if_pos rfl]
      have e3 : argsB 26 l.length = decide (l.length = 0) := rfl
      have e2 : restB 26 int vk vi vs nm = ((nameB nm && !(boundL int).isEmpty) && nullV vk vi vs) := rfl
      rw [e2, e3, bound_in]
      cases decide (l.length = 0) <;> cases nameB nm <;> cases decide (0 <= int) <;> cases decide (int < 5) <;> cases nullV vk vi vs <;> rfl
     ·rw [if_neg h26]
      by_cases h2 : op = 2 \/ op = 24
      ·rw [if_pos h2]
       have e3 : argsB op l.length = false := by rcases h2 with rfl | rfl <;> rfl
       rw [e3]
       rfl
      ·rw [if_neg h2]
       unfold formedB
       rw [arity_args op l.length (by omega) h3 h25 h26 (fun e => h2 (.inl e)) (fun e => h2 (.inr e))]
       by_cases h1 : op = 1
       ·subst h1
        have e2 : restB 1 int vk vi vs nm = (validV vk vi vs && (decide (int = 0) && nm.isEmpty)) := rfl
        rw [e2, if_pos rfl]
        generalize decide ((arity 1).1 < 0) = a
        generalize decide ((l.length : Int) < (arity 1).1) = b
        generalize decide ((arity 1).2 < (l.length : Int)) = c
        cases a <;> cases b <;> cases c <;> cases nm.isEmpty <;> cases decide (int = 0) <;> cases validV vk vi vs <;> rfl
       ·rw [if_neg h1]
        have e2 : restB op int vk vi vs nm = (decide (int = 0) && (nm.isEmpty && nullV vk vi vs)) := by
         unfold restB
         rw [if_neg h1, if_neg h3, if_neg h26, if_neg h25]
        rw [e2]
        generalize decide ((arity op).1 < 0) = a
        generalize decide ((l.length : Int) < (arity op).1) = b
        generalize decide ((arity op).2 < (l.length : Int)) = c
        cases a <;> cases b <;> cases c <;> cases nm.isEmpty <;> cases decide (int = 0) <;> cases nullV vk vi vs <;> rfl
   rw [<- key]
   cases argsB op l.length <;> cases restB op int vk vi vs nm <;> cases l.all rOk <;> rfl
theorem joinTail_pairs (sg : S) : ∀ bs : List S, Lib.joinTail [32] (bs.flatMap fun b => [sg, b]) = Lib.joinTail (32 :: (sg ++ [32])) bs
 | [] => rfl
 | b :: bs => by
  have ih := joinTail_pairs sg bs
  unfold Lib.joinTail at ih |-
  simp only [List.flatMap_cons, List.map_append, List.map_cons, List.map_nil, List.flatten_append, List.flatten_cons, List.flatten_nil, ih]
  simp
theorem join_pairs (sg a : S) (bs : List S) : Lib.join (a :: bs.flatMap fun b => [sg, b]) [32] = Lib.join (a :: bs) (32 :: (sg ++ [32])) := by
 rw [Lib.join_cons, Lib.join_cons, joinTail_pairs]
theorem paren_len (b : Bool) (s : S) : (paren b s).length <= s.length + 2 := by
 unfold paren
 split <;> simp
theorem opd_len (n : Int) (x : X) : (opd n x).length <= (txt x).length + 2 := paren_len _ _
theorem opds_len (n : Int) (l : List X) : (opds n l).length = l.length := by rw [opds_map]; simp
theorem lens_cons (a : S) (l : List S) : Lib.lens (a :: l) = a.length + Lib.lens l := by simp [Lib.lens]
theorem lens_opds (n : Int) : ∀ l : List X, (∀ x ∈ l, (txt x).length + 100 <= 600 * nodes x) -> Lib.lens (opds n l) + 98 * l.length <= 600 * nodesL l
 | [], _ => by simp [opds, nodesL, Lib.lens]
 | x :: l, h => by
  have h1 := lens_opds n l fun y hy => h y (List.mem_cons_of_mem _ hy)
  have h2 := h x (List.mem_cons_self ..)
  have h3 := paren_len (decide (level x < n)) (txt x)
  rw [opds, lens_cons, nodesL, List.length_cons]
  omega
theorem ite_le {p : Prop} [Decidable p] {a b : S} {n : Nat} (ha : a.length <= n) (hb : b.length <= n) : (if p then a else b).length <= n := by
 split <;> assumption
theorem sign_len (op : Int) : (signL op).length <= 8 := by
 unfold signL
 repeat (refine ite_le (by decide) ?_)
 decide
theorem bound_len (n : Int) : (boundL n).length <= 10 := by
 unfold boundL
 repeat (refine ite_le (by decide) ?_)
 decide
theorem rel_len (n : Int) : (relL n).length <= 12 := by
 unfold relL
 repeat (refine ite_le (by decide) ?_)
 decide
theorem name_len {s : S} (h : nameB s = true) : s.length <= 24 /\ s ≠ [] := by
 refine ⟨Nat.le_of_not_lt fun hl => ?_, fun e => ?_⟩
 ·rw [name_long hl] at h
  cases h
 ·rw [name_empty e] at h
  cases h
theorem ref_len {s : S} (h : refB s = true) : s.length <= 49 /\ s ≠ [] := by
 unfold refB at h
 split at h
 ·rw [Bool.and_eq_true] at h
  have h1 := name_len h.1
  have h2 := name_len h.2
  unfold postDot at h2
  have h3 := h2.1
  rw [List.length_drop] at h3
  refine ⟨by omega, fun e => ?_⟩
  subst e
  exact h1.2 rfl
 ·have := name_len h
  exact ⟨by omega, this.2⟩
theorem dec_len17 {n : Nat} (h : n <= 1125899906842624) : (Lib.decDigits n).length <= 17 := by
 have key : ∀ (k n : Nat), n < 10 ^ (k + 1) -> (Lib.decDigits n).length <= k + 1 := by
  intro k
  induction k with
  | zero =>
   intro n h
   rw [Lib.decDigits, dif_pos (by simpa using h)]
   simp
  | succ k ih =>
   intro n h
   rw [Lib.decDigits]
   split
   ·simp
   ·have := ih (n / 10) (by rw [Nat.pow_succ] at h; omega)
    simp
    omega
 exact key 16 n (by omega)
theorem dec_ne' (n : Nat) : Lib.decDigits n ≠ [] := by
 rw [Lib.decDigits]
 split <;> simp
theorem lit_good {vk vi : Int} {vs : S} (h : validV vk vi vs = true) : litL vk vi vs ≠ [] /\ (litL vk vi vs).length <= 410 := by
 unfold litL
 rw [if_pos h]
 unfold validV at h
 by_cases h0 : vk = 0
 ·subst h0
  simp
 ·rw [if_neg h0] at h
  by_cases h1 : vk = 1
  ·subst h1
   rw [if_pos rfl] at h
   simp only [Bool.and_eq_true] at h
   obtain ⟨_, h2, h3⟩ := h
   have h2 := of_decide_eq_true h2
   have h3 := of_decide_eq_true h3
   unfold maxN at h2 h3
   rw [if_pos rfl]
   unfold itoaL Lib.itoa
   split
   ·have := dec_len17 (n := vi.natAbs) (by omega)
    simp
    omega
   ·have := dec_len17 (n := vi.toNat) (by omega)
    exact ⟨dec_ne' _, by omega⟩
  ·rw [if_neg h1] at h |-
   by_cases h2 : vk = 2
   ·subst h2
    rw [if_pos rfl] at h
    simp only [Bool.and_eq_true, decide_eq_true_eq] at h
    rw [if_pos rfl]
    have hq : (quoteBody vs).length <= 2 * vs.length := by
     clear h
     induction vs with
     | nil => simp [quoteBody]
     | cons c l ih =>
      have hq : quoteBody (c :: l) = quoteC c ++ quoteBody l := by simp [quoteBody]
      rw [hq, List.length_append]
      have : (quoteC c).length <= 2 := by unfold quoteC; split <;> simp
      simp only [List.length_cons]
      omega
    refine ⟨by simp [quoteL], ?_⟩
    simp only [quoteL, List.length_cons, List.length_append, List.length_nil]
    omega
   ·rw [if_neg h2]
    split
    ·split <;> simp
    ·simp
theorem head_opds (n : Int) (a : X) (l : List X) : (opds n (a :: l)).headD [] = opd n a := rfl
theorem pok_args {op int vk vi : Int} {vs nm : S} {l : List X} (h : pOk (.mk op int vk vi vs nm l) = true) : argsB op l.length = true /\ (∀ x ∈ l, pOk x = true) /\ restB op int vk vi vs nm = true /\ (op = 25 -> ∀ x ∈ l, x.op = 3 /\ nameB x.nm = true) := by
 rw [pOk, Bool.and_eq_true, Bool.and_eq_true, pOks_iff, List.all_eq_true] at h
 refine ⟨h.1, fun x hx => ?_, h.2.2, fun h25 x hx => ?_⟩
 ·have := h.2.1 x hx
  rw [Bool.and_eq_true] at this
  exact this.1
 ·have := h.2.1 x hx
  rw [Bool.and_eq_true, decide_eq_true h25] at this
  have h2 := this.2
  simp at h2
  exact h2
theorem len_one {l : List X} (h : l.length = 1) : ∃ a, l = [a] := by
 match l, h with
 | [a], _ => exact ⟨a, rfl⟩
theorem len_two {l : List X} (h : 2 <= l.length) : ∃ a b r, l = a :: b :: r := by
 match l, h with
 | a :: b :: r, _ => exact ⟨a, b, r, rfl⟩
theorem txt_mk (op int vk vi : Int) (vs nm : S) (l : List X) : txt (.mk op int vk vi vs nm l) = txtOf op int vk vi vs nm l fun n => opds n l := by rw [txt]
theorem txt_good : ∀ (N : Nat) (x : X), nodes x <= N -> pOk x = true -> txt x ≠ [] /\ (txt x).length + 100 <= 600 * nodes x
 | 0, x, h, _ => absurd (nodes_pos x) (by omega)
 | N + 1, .mk op int vk vi vs nm l, h, hp => by
  obtain ⟨ha, hl, hr, h25⟩ := pok_args hp
  rw [nodes] at h |-
  have ih : ∀ x ∈ l, txt x ≠ [] /\ (txt x).length + 100 <= 600 * nodes x := fun x hx => txt_good N x (by have := nodesL_mem hx; omega) (hl x hx)
  have hlens := fun n => lens_opds n l fun x hx => (ih x hx).2
  rw [txt_mk]
  unfold txtOf
  by_cases e1 : op = 1
  ·subst e1
   rw [if_pos rfl]
   have hv : validV vk vi vs = true := by
    have : restB 1 int vk vi vs nm = (validV vk vi vs && (decide (int = 0) && nm.isEmpty)) := rfl
    rw [this, Bool.and_eq_true] at hr
    exact hr.1
   have := lit_good hv
   exact ⟨this.1, by omega⟩
  rw [if_neg e1]
  by_cases e3 : op = 3
  ·subst e3
   rw [if_pos rfl]
   have hv : refB nm = true := by
    have : restB 3 int vk vi vs nm = (refB nm && (decide (int = 0) && nullV vk vi vs)) := rfl
    rw [this, Bool.and_eq_true] at hr
    exact hr.1
   have := ref_len hv
   exact ⟨this.2, by omega⟩
  rw [if_neg e3]
  by_cases e26 : op = 26
  ·subst e26
   rw [if_pos rfl]
   have hv : nameB nm = true := by
    have : restB 26 int vk vi vs nm = ((nameB nm && !(boundL int).isEmpty) && nullV vk vi vs) := rfl
    rw [this, Bool.and_eq_true, Bool.and_eq_true] at hr
    exact hr.1.1
   have := name_len hv
   have := bound_len int
   refine ⟨by simp, ?_⟩
   simp only [List.length_append, List.length_cons, List.length_nil]
   omega
  rw [if_neg e26]
  by_cases e25 : op = 25
  ·subst e25
   rw [if_pos rfl]
   have h2 : l.length = 2 := by
    have : argsB 25 l.length = decide (l.length = 2) := rfl
    rw [this] at ha
    exact of_decide_eq_true ha
   obtain ⟨a, b, r, rfl⟩ := len_two (by omega : 2 <= l.length)
   have k1 := name_len (h25 rfl a (by simp)).2
   have k2 := name_len (h25 rfl b (by simp)).2
   have := rel_len int
   refine ⟨by simp, ?_⟩
   simp only [List.head?_cons, Option.map_some, Option.getD_some, List.drop_succ_cons, List.drop_zero, List.length_append, List.length_cons]
   omega
  rw [if_neg e25]
  by_cases e21 : op = 21
  ·subst e21
   rw [if_pos rfl]
   obtain ⟨a, rfl⟩ := len_one (of_decide_eq_true (show decide (l.length = 1) = true from ha))
   have k1 := (ih a (by simp)).2
   have k2 := opd_len 5 a
   rw [head_opds]
   refine ⟨by simp, ?_⟩
   simp only [nodesL, List.length_append, List.length_cons, List.length_nil]
   omega
  rw [if_neg e21]
  by_cases e4 : op = 4
  ·subst e4
   rw [if_pos rfl]
   obtain ⟨a, rfl⟩ := len_one (of_decide_eq_true (show decide (l.length = 1) = true from ha))
   have k1 := (ih a (by simp)).2
   have k2 := opd_len 3 a
   rw [head_opds]
   refine ⟨by simp, ?_⟩
   simp only [nodesL, List.length_append, List.length_cons, List.length_nil]
   omega
  rw [if_neg e4]
  by_cases e18 : op = 18
  ·subst e18
   rw [if_pos rfl]
   obtain ⟨a, rfl⟩ := len_one (of_decide_eq_true (show decide (l.length = 1) = true from ha))
   have k1 := (ih a (by simp)).2
   have k2 := opd_len 8 a
   have k3 := opd_len 0 a
   rw [head_opds, head_opds]
   split
   ·refine ⟨by simp, ?_⟩
    simp only [nodesL, List.length_append, List.length_cons, List.length_nil]
    omega
   ·refine ⟨by simp, ?_⟩
    simp only [nodesL, List.length_append, List.length_cons, List.length_nil]
    omega
  rw [if_neg e18]
  have k3 := sign_len op
  by_cases e20 : op = 20 \/ op = 22 \/ op = 23
  ·rw [if_pos e20]
   refine ⟨by simp, ?_⟩
   have k1 := hlens 0
   simp only [List.length_append, List.length_cons, List.length_nil]
   have k2 : (Lib.join (opds 0 l) [44, 32]).length <= Lib.lens (opds 0 l) + 2 * l.length := by
    cases l with
    | nil => simp [opds, Lib.join_nil]
    | cons a l =>
     rw [opds, Lib.join_length, opds_len]
     simp
     omega
   omega
  ·rw [if_neg e20]
   have h2 : 2 <= l.length := by
    unfold argsB at ha
    repeat' split at ha
    all_goals (try (cases ha))
    all_goals (first | (simp at ha; omega) | (exfalso; omega))
   obtain ⟨a, b, r, rfl⟩ := len_two h2
   have k1 := fun n => lens_opds n (b :: r) fun x hx => (ih x (List.mem_cons_of_mem _ hx)).2
   have k2 := (ih a (by simp)).2
   have hc : ∀ f t, chain (signL op) (opds f (a :: b :: r)) (opds t (a :: b :: r)) = Lib.join (opd f a :: opds t (b :: r)) (32 :: (signL op ++ [32])) := fun f t => rfl
   rw [hc]
   have k4 := k1 (levelOf op vk vi + 1)
   have k5 := opd_len (firstOf (levelOf op vk vi)) a
   refine ⟨?_, ?_⟩
   ·intro e
    have := congrArg List.length e
    rw [Lib.join_length, lens_cons, opds_len] at this
    simp at this
   ·rw [Lib.join_length, lens_cons, opds_len]
    rw [nodesL]
    simp only [List.length_append, List.length_cons, List.length_nil] at k4 |-
    have k7 : ((signL op).length + (0 + 1) + 1) * (r.length + 1) <= 10 * (r.length + 1) := Nat.mul_le_mul_right _ (by omega)
    omega
end Go.Proofs.YtnlimlboedohgaaGreatDoor.Px
