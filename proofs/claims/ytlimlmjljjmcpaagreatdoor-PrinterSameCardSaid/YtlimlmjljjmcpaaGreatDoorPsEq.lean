/-
  Trees compared part by part.
-/
import Derived.Test.YtlimlmjljjmcpaaGreatDoorPsRep
namespace Go.Proofs.YtlimlmjljjmcpaaGreatDoor.Ps
open Go Go.RowKit
set_option linter.unusedVariables false
/-- are two lists of trees the same -/
noncomputable def eqL : List C → List C → Bool
  | [], [] => true
  | x :: xs, y :: ys => eqC x y && eqL xs ys
  | _, _ => false
theorem eqL_true : ∀ {xs ys : List C}, eqL xs ys = true ↔ xs = ys
  | [], [] => by simp [eqL]
  | [], _ :: _ => by simp [eqL]
  | _ :: _, [] => by simp [eqL]
  | x :: xs, y :: ys => by
    simp only [eqL, Bool.and_eq_true, eqC_true, eqL_true, List.cons.injEq]
theorem bool_iff {a b : Bool} (h : a = true ↔ b = true) : a = b := by
  cases a <;> cases b <;> simp_all
theorem eqC_a (xs ys : List C) : eqC (.a xs) (.a ys) = eqL xs ys := bool_iff (by rw [eqC_true, eqL_true]; simp)
theorem eqC_s (xs ys : List C) : eqC (.s xs) (.s ys) = eqL xs ys := bool_iff (by rw [eqC_true, eqL_true]; simp)
theorem eqC_int (k : IntKind) (a b : Int) : eqC (.l (.int k a)) (.l (.int k b)) = decide (a = b) := bool_iff (by rw [eqC_true, decide_eq_true_iff]; simp)
theorem eqC_bool (a b : Bool) : eqC (.l (.bool a)) (.l (.bool b)) = decide (a = b) := bool_iff (by rw [eqC_true, decide_eq_true_iff]; simp)
theorem eqC_str (a b : ByteArray) : eqC (.l (.string a)) (.l (.string b)) = decide (a = b) := bool_iff (by rw [eqC_true, decide_eq_true_iff]; simp)
theorem eqL_cons (x y : C) (xs ys : List C) : eqL (x :: xs) (y :: ys) = (eqC x y && eqL xs ys) := rfl
theorem eqL_nil : eqL [] [] = true := rfl
theorem eqL_self (xs : List C) : eqL xs xs = true := eqL_true.2 rfl
theorem eqL_len {xs ys : List C} (h : xs.length ≠ ys.length) : eqL xs ys = false := by
  cases e : eqL xs ys with
  | false => rfl
  | true => exact absurd (congrArg List.length (eqL_true.1 e)) h
theorem eqL_at {xs ys : List C} {k : Nat} (hx : k < xs.length) (hy : k < ys.length) (h : eqC xs[k] ys[k] = false) : eqL xs ys = false := by
  cases e : eqL xs ys with
  | false => rfl
  | true =>
    have e1 := eqL_true.1 e
    subst e1
    rw [eqC_self] at h
    cases h
/-- up to k the lists are the same -/
def upTo (xs ys : List C) (k : Nat) : Prop := ∀ i (hx : i < xs.length) (hy : i < ys.length), i < k → eqC xs[i] ys[i] = true
theorem upTo_zero (xs ys : List C) : upTo xs ys 0 := fun _ _ _ h => absurd h (by omega)
theorem upTo_succ {xs ys : List C} {k : Nat} (h : upTo xs ys k) (hx : k < xs.length) (hy : k < ys.length) (hk : eqC xs[k] ys[k] = true) : upTo xs ys (k + 1) := fun i h1 h2 h3 => by
  rcases Nat.lt_or_ge i k with hlt | hge
  · exact h i h1 h2 hlt
  · obtain rfl : i = k := by omega
    exact hk
theorem upTo_all {xs ys : List C} {k : Nat} (h : upTo xs ys k) (hx : xs.length = k) (hy : ys.length = k) : eqL xs ys = true := by
  rw [eqL_true]
  exact List.ext_getElem (by omega) fun i h1 h2 => eqC_true.1 (h i h1 h2 (by omega))
end Go.Proofs.YtlimlmjljjmcpaaGreatDoor.Ps
