/-
  perform on a transaction that has ended: nothing is done.
-/
import Derived.Test.YtkicpmdojmnmeaaGreatDoorTcBlk
namespace Go.Proofs.YtkicpmdojmnmeaaGreatDoor
open Go.RowKit
set_option linter.unusedVariables false
set_option linter.unusedSimpArgs false
/-- no transaction, or one that has ended -/
def TxE (t : Value) (w : World) : Prop := t = .pointer none ∨ ∃ g o, t = .pointer (some ⟨g, o, none⟩) ∧ g < w.heap.size ∧ w.cell? ⟨g, o + 11, none⟩ = some (.bool true)
theorem TxE.kept {t : Value} {w w' : World} (h : TxE t w) (hb : Below w.heap.size w w') : TxE t w' := by
  rcases h with h | ⟨g, o, h1, h2, h3⟩
  · exact .inl h
  · exact .inr ⟨g, o, h1, Nat.lt_of_lt_of_le h2 hb.size, by rw [hb.cell h2]; exact h3⟩
set_option maxHeartbeats 1000000 in
theorem ended_call {t : Value} {w : World} (h : TxE t w) : Calls Tryz.prog 9 #[t] w fun e w' => e = .returned (.bool true) ∧ w' = w := by
  rcases h with rfl | ⟨g, o, rfl, h2, h3⟩
  · go_enter Tryz.func9, Tryz.ntmps9
    go_wp2_with fail
    go_ret
    exact ⟨rfl, rfl⟩
  · go_enter Tryz.func9, Tryz.ntmps9
    go_wp2_with fail
    go_ret
    exact ⟨rfl, rfl⟩
set_option maxHeartbeats 1000000 in
theorem perform_call {t s f : Value} {w : World} (h : TxE t w) : Calls Tryz.prog 50 #[t, s, f] w fun e w' => e = .returned (.tuple #[.int .i64 0, .int .i64 20]) ∧ w' = w := by
  go_enter Tryz.func50, Tryz.ntmps50
  go_wp2_with fail
  refine (ended_call h).mono ?_
  rintro e' w4 ⟨rfl, rfl⟩
  go_wp2_with fail
  go_ret2
  exact ⟨rfl, rfl⟩
end Go.Proofs.YtkicpmdojmnmeaaGreatDoor
