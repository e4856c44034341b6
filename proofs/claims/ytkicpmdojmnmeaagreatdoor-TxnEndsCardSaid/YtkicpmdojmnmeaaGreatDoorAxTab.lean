/-
  No tables; the unknown values are an operation's cells, whatever they are.
-/
import Derived.Test.YtkicpmdojmnmeaaGreatDoorTcExpr
namespace Go.Proofs.YtkicpmdojmnmeaaGreatDoor.Ax
open Go Go.RowKit
/-- what a block of the program's own variables holds -/
def tabC : Nat → Option (List Value)
  | 0 => none
  | _ + 1 => none
/-- what is known of the unknown values -/
def EnvP (K : Nat → Option Obj) (env : Nat → Value) : Prop := ∃ (wX : World) (c : Ps.C), Ps.Rp Tryz.prog wX 44 ((List.range 34).map env) c ∧ Sm c ∧ (∃ n : Int, env 35 = .int .i64 n ∧ ∀ m : Nat, m ≤ 9 → n ≠ (m : Int)) ∧ ∀ (q : Nat) (o : Obj), wX.heap[q]? = some o → K q = some o
theorem envP_mono {K K' : Nat → Option Obj} {env : Nat → Value} (h : ∀ q o, K q = some o → K' q = some o) (he : EnvP K env) : EnvP K' env := by
  obtain ⟨wX, c, h1, h2, h0, h3⟩ := he
  exact ⟨wX, c, h1, h2, h0, fun q o hq => h q o (h3 q o hq)⟩
def TabW (w : World) : Prop := ∀ b l, tabC b = some l → ∃ t f, w.heap[b]? = some (.cells l.toArray t f)
theorem tabW_none (w : World) : TabW w := fun b _ h => by cases b <;> cases h
end Go.Proofs.YtkicpmdojmnmeaaGreatDoor.Ax
