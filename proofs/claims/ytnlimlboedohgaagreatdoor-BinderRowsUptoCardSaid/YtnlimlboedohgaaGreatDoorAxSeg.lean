/-
  Oracles: single calls at single states, each known by a fact of its own; what of memory is not named is forgotten.
-/
import Derived.Test.YtnlimlboedohgaaGreatDoorAxOrc
set_option linter.unusedVariables false
namespace Go.Proofs.YtnlimlboedohgaaGreatDoor.Ax
open Go Go.RowKit
noncomputable def eqMem : List (Nat × List RV) -> List (Nat × List RV) -> Bool
 | [], [] => true
 | (e, l) :: m, (e', l') :: m' => bif Nat.beq e e' then (bif eqRVs l l' then eqMem m m' else false) else false
 | _, _ => false
noncomputable def eqEs : List (RV × RV × Nat) -> List (RV × RV × Nat) -> Bool
 | [], [] => true
 | (a, b, n) :: m, (a', b', n') :: m' => bif Nat.beq n n' then (bif eqRV a a' then (bif eqRV b b' then eqEs m m' else false) else false) else false
 | _, _ => false
noncomputable def eqBo : Bool -> Bool -> Bool
 | true, b => b
 | false, b => !b
noncomputable def eqOB : OB -> OB -> Bool
 | .cells el z nx mem, .cells el' z' nx' mem' => bif Nat.beq el el' then (bif eqBo z z' then (bif Nat.beq nx nx' then eqMem mem mem' else false) else false) else false
 | .mp es ck, .mp es' ck' => bif Nat.beq ck ck' then eqEs es es' else false
 | _, _ => false
noncomputable def subHp : Hp -> Hp -> Bool
 | .leaf, _ => true
 | .node none l r, .leaf => bif subHp l .leaf then subHp r .leaf else false
 | .node (some _) _ _, .leaf => false
 | .node none l r, .node _ l' r' => bif subHp l l' then subHp r r' else false
 | .node (some a) l r, .node (some b) l' r' => bif eqOB a b then (bif subHp l l' then subHp r r' else false) else false
 | .node (some _) _ _, .node none _ _ => false
theorem bifs {a b : Bool} (h : (bif a then b else false) = true) : a = true /\ b = true := by
 cases a
 ·cases h
 ·exact ⟨rfl, h⟩
theorem eqMem_eq : ∀ {a b : List (Nat × List RV)}, eqMem a b = true -> a = b
 | [], [], _ => rfl
 | [], _ :: _, h => by cases h
 | _ :: _, [], h => by cases h
 | (e, l) :: m, (e', l') :: m', h => by
  obtain ⟨h1, h2⟩ := bifs h
  obtain ⟨h2, h3⟩ := bifs h2
  rw [Nat.eq_of_beq_eq_true h1, eqRVs_eq h2, eqMem_eq h3]
theorem eqEs_eq : ∀ {a b : List (RV × RV × Nat)}, eqEs a b = true -> a = b
 | [], [], _ => rfl
 | [], _ :: _, h => by cases h
 | _ :: _, [], h => by cases h
 | (a, b, n) :: m, (a', b', n') :: m', h => by
  obtain ⟨h1, h2⟩ := bifs h
  obtain ⟨h2, h3⟩ := bifs h2
  obtain ⟨h3, h4⟩ := bifs h3
  rw [Nat.eq_of_beq_eq_true h1, eqRV_eq h2, eqRV_eq h3, eqEs_eq h4]
theorem eqBo_eq {a b : Bool} (h : eqBo a b = true) : a = b := by
 cases a <;> cases b <;> first | rfl | cases h
theorem eqOB_eq {a b : OB} (h : eqOB a b = true) : a = b := by
 cases a <;> cases b <;> try cases h
 ·obtain ⟨h1, h2⟩ := bifs h
  obtain ⟨h2, h3⟩ := bifs h2
  obtain ⟨h3, h4⟩ := bifs h3
  rw [Nat.eq_of_beq_eq_true h1, eqBo_eq h2, Nat.eq_of_beq_eq_true h3, eqMem_eq h4]
 ·obtain ⟨h1, h2⟩ := bifs h
  rw [Nat.eq_of_beq_eq_true h1, eqEs_eq h2]
theorem subHp_get : ∀ {h0 h : Hp}, subHp h0 h = true -> ∀ {G : Nat} {ob : OB}, h0.get G = some ob -> h.get G = some ob
 | .leaf, h, _, G, ob, hg => by cases hg
 | .node none l r, .leaf, hs, G, ob, hg => by
  obtain ⟨h1, h2⟩ := bifs hs
  unfold Tr.get at hg
  cases e0 : Nat.beq G 0 with
  | true => rw [e0] at hg; cases hg
  | false =>
   rw [e0, cond_false] at hg
   cases e1 : Nat.beq (G % 2) 1 with
   | true => rw [e1, cond_true] at hg; exact absurd (subHp_get h1 hg) (by simp [Tr.get])
   | false => rw [e1, cond_false] at hg; exact absurd (subHp_get h2 hg) (by simp [Tr.get])
 | .node (some _) _ _, .leaf, hs, G, ob, hg => by cases hs
 | .node none l r, .node v l' r', hs, G, ob, hg => by
  obtain ⟨h1, h2⟩ := bifs hs
  unfold Tr.get at hg |-
  cases e0 : Nat.beq G 0 with
  | true => rw [e0] at hg; cases hg
  | false =>
   rw [e0, cond_false] at hg
   rw [cond_false]
   cases e1 : Nat.beq (G % 2) 1 with
   | true => rw [e1, cond_true] at hg; rw [cond_true]; exact subHp_get h1 hg
   | false => rw [e1, cond_false] at hg; rw [cond_false]; exact subHp_get h2 hg
 | .node (some a) l r, .node (some b) l' r', hs, G, ob, hg => by
  obtain ⟨h0, h1⟩ := bifs hs
  obtain ⟨h1, h2⟩ := bifs h1
  unfold Tr.get at hg |-
  cases e0 : Nat.beq G 0 with
  | true =>
   rw [e0, cond_true] at hg
   cases hg
   rw [cond_true, eqOB_eq h0]
  | false =>
   rw [e0, cond_false] at hg
   rw [cond_false]
   cases e1 : Nat.beq (G % 2) 1 with
   | true => rw [e1, cond_true] at hg; rw [cond_true]; exact subHp_get h1 hg
   | false => rw [e1, cond_false] at hg; rw [cond_false]; exact subHp_get h2 hg
 | .node (some _) _ _, .node none _ _, hs, G, ob, hg => by cases hs
section
variable {P : Program} {c : Cx} {g g' : Gm} {h h0 : Hp} {nx nx' : Nat} {w w' : World}
/-- what is not named is forgotten -/
theorem RW.sub (hw : RW c g h nx w) (hs : ∀ G ob, h0.get G = some ob -> h.get G = some ob) : RW c g h0 nx w := by
 have hl : ∀ {G e}, Live h0 G e -> Live h G e := fun {G e} h => by
  obtain ⟨ob, h1, h2⟩ := h
  exact ⟨ob, hs _ _ h1, h2⟩
 refine ⟨hw.os, hw.tape, hw.output, hw.size, hw.keep, hw.free, fun G hG => ?_, fun G f hf => ?_, fun G ob hG => hw.ok G ob (hs _ _ hG), fun G G' e e' q n n' h1 h2 => hw.sep G G' e e' q n n' (hl h1) (hl h2)⟩
 ·cases hh : h0.get G with
  | none => rfl
  | some ob => rw [<- hw.dom G hG, hs _ _ hh]
 ·obtain ⟨h1, h2, h3⟩ := hw.res G f hf
  refine ⟨h1, ?_, h3⟩
  cases hh : h0.get G with
  | none => rfl
  | some ob => rw [<- h2, hs _ _ hh]
noncomputable def segO (f0 : FuncId) (as0 : List RV) (h0 : Hp) (nx0 : Nat) (r1 : RV) (h1 : Hp) (nx1 : Nat) : CallR := fun who args h nx => match who with
 | .fn f => bif Nat.beq f f0 then (bif Nat.beq nx nx0 then (bif eqRVs args as0 then (bif subHp h0 h then some (.ret r1, h1, nx1) else none) else none) else none) else none
 | .yld _ => none
noncomputable def segB (x : Option (RE × Hp × Nat)) (r1 : RV) (h1 : Hp) (nx1 : Nat) : Bool := match x with
 | some (.ret r, h, nx) => bif Nat.beq nx nx1 then (bif eqRV r r1 then subHp h1 h else false) else false
 | _ => false
theorem segB_some {x : Option (RE × Hp × Nat)} {r1 : RV} {h1 : Hp} {nx1 : Nat} (hf : segB x r1 h1 nx1 = true) : ∃ h, x = some (.ret r1, h, nx1) /\ subHp h1 h = true := by
 unfold segB at hf
 split at hf
 ·rename_i r h nx
  obtain ⟨a, b⟩ := bifs hf
  obtain ⟨b, d⟩ := bifs b
  exact ⟨h, by rw [Nat.eq_of_beq_eq_true a, eqRV_eq b], d⟩
 ·cases hf
theorem segO_ok {call : CallR} (hc : CallOK P call) {f0 : FuncId} {as0 : List RV} {nx0 : Nat} {r1 : RV} {h1 : Hp} {nx1 : Nat} (hf : segB (call (.fn f0) as0 h0 nx0) r1 h1 nx1 = true) : CallOK P (segO f0 as0 h0 nx0 r1 h1 nx1) := by
 obtain ⟨hF, hx, hsub⟩ := segB_some hf
 refine ⟨fun f args h nx re h' nx' hh => ?_, fun G args h nx re h' nx' hh => by cases hh⟩
 have hh1 : (bif Nat.beq f f0 then (bif Nat.beq nx nx0 then (bif eqRVs args as0 then (bif subHp h0 h then some (RE.ret r1, h1, nx1) else none) else none) else none) else none) = some (re, h', nx') := hh
 cases e1 : Nat.beq f f0 with
 | false => rw [e1] at hh1; cases hh1
 | true =>
  rw [e1, cond_true] at hh1
  cases e2 : Nat.beq nx nx0 with
  | false => rw [e2] at hh1; cases hh1
  | true =>
   rw [e2, cond_true] at hh1
   cases e3 : eqRVs args as0 with
   | false => rw [e3] at hh1; cases hh1
   | true =>
    rw [e3, cond_true] at hh1
    cases e4 : subHp h0 h with
    | false => rw [e4] at hh1; cases hh1
    | true =>
     rw [e4, cond_true] at hh1
     cases hh1
     have k1 := Nat.eq_of_beq_eq_true e1
     have k2 := Nat.eq_of_beq_eq_true e2
     have k3 := eqRVs_eq e3
     subst k1 k2 k3
     obtain ⟨hr, hcall⟩ := hc.1 _ _ _ _ _ _ _ hx
     exact ⟨hr, fun c g w vs hv hw K hK => hcall c g w vs hv (hw.sub fun G ob hG => subHp_get e4 hG) K fun g' v w' j1 j2 j3 => hK g' v w' j1 j2 (j3.sub fun G ob hG => subHp_get hsub hG)⟩
end
/-- a run under oracles that ends with true -/
theorem calls_true_r {P : Program} {orc : CallR} (horc : CallOK P orc) {d : Nat} {f : FuncId} {args : List RV} (hr : saysTrue (callR P orc (drawR P) d (.fn f) args .leaf 0) = true) (env : Nat -> Value) (vs : List Value) (hv : RL (fun _ _ => none) env args vs) (w : World) (ht : TabW w) (he : EnvP (fun q => w.heap[q]?) env) :
  Calls P f vs.toArray w fun e w' => e = .returned (.bool true) /\ Below w.heap.size w w' := by
 obtain ⟨h', nx', hx⟩ := of_saysTrue hr
 refine calls_of horc hx env vs hv w ht he _ fun g v w' k1 _ k3 => ?_
 cases k1
 exact ⟨rfl, k3⟩
end Go.Proofs.YtnlimlboedohgaaGreatDoor.Ax
