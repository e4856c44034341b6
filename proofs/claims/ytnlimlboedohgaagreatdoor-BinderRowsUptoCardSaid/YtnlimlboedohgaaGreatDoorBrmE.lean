import Derived.Test.YtnlimlboedohgaaGreatDoorBrmF1
import Derived.Test.YtnlimlboedohgaaGreatDoorBrmF2
import Derived.Test.YtnlimlboedohgaaGreatDoorBrmF3
import Derived.Test.YtnlimlboedohgaaGreatDoorBrmF4
import Derived.Test.YtnlimlboedohgaaGreatDoorRows
import Derived.Test.YtnlimlboedohgaaGreatDoorCards
import Derived.ProofKit
import Derived.SevenTiedAt
/-
  The closed facts of BinderRows's row, joined.
-/
namespace Go.Proofs.YtnlimlboedohgaaGreatDoor.binderRows
open Go
theorem andT {a b : Bool} (h : a = true) (k : b = true) : (a && b) = true := by rw [h, k]; rfl
set_option maxRecDepth 100000 in
set_option maxHeartbeats 0 in
theorem closed : joinedFacts Tryz.pinned.checked.prog 5 Tryz.f5 (Rows.OpenSpec.upto Rows.binderRowsSpec).bare Rows.binderRowsUptoRow = true := by
  unfold joinedFacts
  repeat' with_reducible apply andT
  any_goals with_reducible exact fact_inPlace
  any_goals with_reducible exact fact_unfollowed
  any_goals with_reducible exact fact_recurses
  any_goals with_reducible exact fact_named
  all_goals as_aux_lemma => kernel_rfl
set_option maxRecDepth 100000
theorem main_is : Tryz.pinned.checked.prog.mainIs = some (Rows.binderRowsUptoCard.stood.harness.1, Rows.binderRowsUptoCard.stood.harness.2.toList) := by kernel_rfl
theorem looks_not : true = Tryz.pinned.checked.prog.looks [] := by kernel_rfl
/-- where no function starts anything, no call does -/
theorem goes_none {P : Program} (h : P.funcs.any Func.goes = false) (f : FuncId) : P.goes f = false := by
  have h1 : ∀ x ∈ P.funcs, Func.goes x = false := fun x hx => by
    cases hg : Func.goes x with
    | false => rfl
    | true =>
      have : P.funcs.any Func.goes = true := Array.any_eq_true'.2 ⟨x, hx, hg⟩
      rw [h] at this
      cases this
  unfold Program.goes
  rw [h, Bool.and_false, Bool.or_false, List.any_eq_false]
  intro g _
  cases hf : P.funcs[g]? with
  | none => simp
  | some fn => simp [h1 fn (Array.mem_of_getElem? hf)]
theorem goes_nowhere : Tryz.pinned.checked.prog.funcs.any Func.goes = false := by kernel_rfl
theorem goes_not : false = Rows.binderRowsUptoRow.goesBy Tryz.pinned.checked.prog := by
  unfold OpenClaim.goesBy Program.goesAt Program.goesFrom
  cases h : Tryz.pinned.checked.prog.funcNamed Rows.binderRowsUptoRow.func with
  | none => rfl
  | some f =>
    rw [Option.any_some, goes_none goes_nowhere f]
    rfl
end Go.Proofs.YtnlimlboedohgaaGreatDoor.binderRows
