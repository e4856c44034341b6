/-
  Oracles: methods of a transaction that has ended, whatever they are asked.
-/
import Derived.Test.YtkicpmdojmnmeaaGreatDoorAyA
import Derived.Test.YtkicpmdojmnmeaaGreatDoorTcPerf
set_option linter.unusedVariables false
namespace Go.Proofs.YtkicpmdojmnmeaaGreatDoor.Ax
open Go Go.RowKit
/-- no transaction, or one of the run's own that has ended -/
def endedR (h : Hp) : RV → Bool
  | .lit (.pointer none) => true
  | .ptr G e 0 => match cellsAt h G e with
    | some (_, _, _, l) => match nthR l 11 with
      | some (.lit (.bool b)) => b
      | _ => false
    | none => false
  | _ => false
def endO (f0 : FuncId) (as0 : List RV) (r0 : RV) : CallR := fun who args h nx => match who, args with
  | .fn f, t :: r => bif Nat.beq f f0 && eqRVs r as0 && endedR h t then some (.ret r0, h, nx) else none
  | _, _ => none
def valO (env : Nat → Value) : RV → Value
  | .opq i => env i
  | _ => undef
def valA (env : Nat → Value) : RV → Value
  | .opq i => env i
  | .agg l => .agg (l.map (valO env)).toArray
  | _ => undef
def isO : RV → Bool
  | .opq _ => true
  | _ => false
def isA : RV → Bool
  | .opq _ => true
  | .agg l => l.all isO
  | _ => false
theorem isO_val {g : Gm} {env : Nat → Value} {r : RV} {v : Value} (hi : isO r = true) (hr : R g env r v) : v = valO env r := by
  cases hr <;> first | rfl | cases hi
theorem isA_val {g : Gm} {env : Nat → Value} {r : RV} {v : Value} (hi : isA r = true) (hr : R g env r v) : v = valA env r := by
  cases hr with
  | opq i h1 h2 => rfl
  | @agg l cs hn hh =>
    have hi' : l.all isO = true := hi
    show Value.agg cs = Value.agg (l.map (valO env)).toArray
    congr 1
    apply Array.ext
    · simp [hn]
    · intro i k1 k2
      have hl : i < l.length := by omega
      have := isO_val (List.all_eq_true.1 hi' _ (List.getElem_mem hl)) (hh i hl k1)
      simpa using this
  | _ => cases hi
theorem isA_vals {g : Gm} {env : Nat → Value} {l : List RV} {vs : List Value} (hi : l.all isA = true) (hr : RL g env l vs) : vs = l.map (valA env) := by
  refine List.ext_getElem (by simp [hr.len]) fun i h1 h2 => ?_
  have hl : i < l.length := by simpa using h2
  rw [List.getElem_map]
  exact isA_val (List.all_eq_true.1 hi _ (List.getElem_mem hl)) (hr.at_ i hl h1)
theorem endedR_ok {c : Cx} {g : Gm} {h : Hp} {nx : Nat} {w : World} {r : RV} {v : Value} (he : endedR h r = true) (hr : R g c.env r v) (hw : RW c g h nx w) : TxE v w := by
  unfold endedR at he
  split at he
  · cases hr
    exact .inl rfl
  · rename_i G e
    split at he
    · rename_i elem z nxe l hc
      split at he
      · rename_i b hn
        subst he
        cases hr with
        | @ptr _ _ _ q n hq =>
          obtain ⟨h1, h2, h3, _, _⟩ := hw.at_ hc hq
          rw [nthR_eq] at hn
          obtain ⟨hlt, hx⟩ := List.getElem?_eq_some_iff.1 hn
          obtain ⟨u, k1, k2, _⟩ := h2.cell hlt
          rw [hx] at k2
          cases k2
          refine .inr ⟨q, 0, rfl, ?_, by rw [Nat.zero_add]; exact k1⟩
          obtain ⟨arr, fz, m1, _⟩ := h2
          exact (Array.getElem?_eq_some_iff.1 m1).1
      · cases he
    · cases he
  · cases he
/-- what such a method keeps to -/
def EndLaw (P : Program) (f0 : FuncId) (as0 : List RV) (v0 : Value) : Prop := ∀ (K : Nat → Option Obj) (env : Nat → Value) (w : World) (t : Value), EnvP K env → (∀ q o, K q = some o → w.heap[q]? = some o) → TxE t w →
  Calls P f0 (t :: as0.map (valA env)).toArray w fun e w' => e = .returned v0 ∧ Below w.heap.size w w'
theorem endO_ok {P : Program} {f0 : FuncId} {as0 : List RV} {v0 : Value} (hi : as0.all isA = true) (hr : Runs P f0) (hl : EndLaw P f0 as0 v0) : CallOK P (endO f0 as0 (.lit v0)) := by
  refine ⟨fun f args h nx re h2 nx2 hc => ?_, fun G args h nx re h2 nx2 hc => by unfold endO at hc; cases hc⟩
  unfold endO at hc
  split at hc
  case h_2 => cases hc
  rename_i f t r ea
  cases ea
  cases hb : Nat.beq f f0 && eqRVs r as0 && endedR h t with
  | false => rw [hb] at hc; cases hc
  | true =>
    rw [hb, cond_true] at hc
    cases hc
    rw [Bool.and_eq_true, Bool.and_eq_true] at hb
    have e1 := Nat.eq_of_beq_eq_true hb.1.1
    have e2 := eqRVs_eq hb.1.2
    subst e1 e2
    refine ⟨hr, fun c g w vs hv hw K hK => ?_⟩
    match vs, hv with
    | [], hv => exact absurd hv.len (by simp)
    | v :: vs, hv =>
      have h0 := hv.at_ 0 (by simp) (by simp)
      simp only [List.getElem_cons_zero] at h0
      have ht : RL g c.env r vs := ⟨by have := hv.len; simpa using this, fun i h1 h2 => by
        have := hv.at_ (i + 1) (by simpa using h1) (by simpa using h2)
        simpa using this⟩
      have e3 := isA_vals hi ht
      subst e3
      refine (hl c.K c.env w v c.envp hw.keep (endedR_ok hb.2 h0 hw)).mono fun e w' ⟨he, hbel⟩ => ?_
      subst he
      exact hK g _ w' (.lit v0) (Ext.refl g) (hw.under hbel)
end Go.Proofs.YtkicpmdojmnmeaaGreatDoor.Ax
