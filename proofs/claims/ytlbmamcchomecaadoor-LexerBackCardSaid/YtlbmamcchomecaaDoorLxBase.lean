/-
  Classes of bytes: the lexer's letter, digit and blank, and the reference's.
-/
import Derived.Test.YtlbmamcchomecaaDoorProg
import Derived.Test.YtlbmamcchomecaaDoorLxPlain
import Derived.WalkKit
import Derived.WalkSpells
import Derived.WalkLawsBesides
import Derived.Lib.Hide
namespace Go.Proofs.YtlbmamcchomecaaDoor
open Go.RowKit
set_option linter.unusedVariables false
set_option linter.unusedSimpArgs false

theorem ret_bool {a b : Bool} (h : a = b) : Ending.returned (.bool a) = .returned (.bool b) := by rw [h]

set_option maxHeartbeats 400000 in
theorem letter_any (n : Nat) (w : World) (hn : n < 256) :
    Calls Tryd.prog 33 #[.int .u8 (n : Int)] w fun e w' => e = .returned (.bool (letterB n)) ∧ w = w' := by
  by_cases a0 : 97 ≤ n <;> by_cases a1 : n ≤ 122 <;> by_cases a2 : 65 ≤ n <;> by_cases a3 : n ≤ 90 <;> by_cases a4 : n = 95 <;> try omega
  all_goals
    go_enter Tryd.func33, Tryd.ntmps33
    go_wp2
    all_goals
      go_ret
      exact ⟨ret_bool (by simp [letterB, *] <;> omega), rfl⟩
set_option maxHeartbeats 400000 in
theorem digit_any (n : Nat) (w : World) (hn : n < 256) :
    Calls Tryd.prog 32 #[.int .u8 (n : Int)] w fun e w' => e = .returned (.bool (digitB n)) ∧ w = w' := by
  by_cases a0 : 48 ≤ n <;> by_cases a1 : n ≤ 57 <;> try omega
  all_goals
    go_enter Tryd.func32, Tryd.ntmps32
    go_wp2
    all_goals
      go_ret
      exact ⟨ret_bool (by simp [digitB, *] <;> omega), rfl⟩
set_option maxHeartbeats 400000 in
theorem blank_any (n : Nat) (w : World) (hn : n < 256) :
    Calls Tryd.prog 39 #[.int .u8 (n : Int)] w fun e w' => e = .returned (.bool (blankB n)) ∧ w = w' := by
  by_cases a0 : n = 32 <;> by_cases a1 : n = 9 <;> by_cases a2 : n = 10 <;> try omega
  all_goals
    go_enter Tryd.func39, Tryd.ntmps39
    go_wp2
    all_goals
      go_ret
      exact ⟨ret_bool (by simp [blankB, *] <;> omega), rfl⟩
set_option maxHeartbeats 400000 in
theorem refLetter_any (n : Nat) (w : World) (hn : n < 256) :
    Calls Tryd.prog 21 #[.int .u8 (n : Int)] w fun e w' => e = .returned (.bool (letterB n)) ∧ w = w' := by
  by_cases a0 : 97 ≤ n <;> by_cases a1 : n ≤ 122 <;> by_cases a2 : 65 ≤ n <;> by_cases a3 : n ≤ 90 <;> by_cases a4 : n = 95 <;> try omega
  all_goals
    go_enter Tryd.func21, Tryd.ntmps21
    go_wp2
    all_goals
      go_ret
      exact ⟨ret_bool (by simp [letterB, *] <;> omega), rfl⟩
set_option maxHeartbeats 400000 in
theorem refDigit_any (n : Nat) (w : World) (hn : n < 256) :
    Calls Tryd.prog 23 #[.int .u8 (n : Int)] w fun e w' => e = .returned (.bool (digitB n)) ∧ w = w' := by
  by_cases a0 : 48 ≤ n <;> by_cases a1 : n ≤ 57 <;> try omega
  all_goals
    go_enter Tryd.func23, Tryd.ntmps23
    go_wp2
    all_goals
      go_ret
      exact ⟨ret_bool (by simp [digitB, *] <;> omega), rfl⟩
set_option maxHeartbeats 400000 in
theorem refBlank_any (n : Nat) (w : World) (hn : n < 256) :
    Calls Tryd.prog 11 #[.int .u8 (n : Int)] w fun e w' => e = .returned (.bool (blankB n)) ∧ w = w' := by
  by_cases a0 : n = 32 <;> by_cases a1 : n = 9 <;> by_cases a2 : n = 10 <;> try omega
  all_goals
    go_enter Tryd.func11, Tryd.ntmps11
    go_wp2
    all_goals
      go_ret
      exact ⟨ret_bool (by simp [blankB, *] <;> omega), rfl⟩
end Go.Proofs.YtlbmamcchomecaaDoor
