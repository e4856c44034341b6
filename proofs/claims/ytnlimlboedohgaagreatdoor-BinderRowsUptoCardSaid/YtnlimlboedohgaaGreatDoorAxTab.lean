/-
  Tables: package variables whose cells are known (strings.asciiSpace, internal/strconv.uint64pow10).
-/
import Derived.WalkKit
import Derived.Lib.Space
namespace Go.Proofs.YtnlimlboedohgaaGreatDoor.Ax
open Go Go.RowKit
def spN : List Nat := [0, 0, 0, 0, 0, 0, 0, 0, 0, 1, 1, 1, 1, 1, 0, 0, 0, 0, 0, 0, 0, 0, 0, 0, 0, 0, 0, 0, 0, 0, 0, 0, 1, 0, 0, 0, 0, 0, 0, 0, 0, 0, 0, 0, 0, 0, 0, 0, 0, 0, 0, 0, 0, 0, 0, 0, 0, 0, 0, 0, 0, 0, 0, 0, 0, 0, 0, 0, 0, 0, 0, 0, 0, 0, 0, 0, 0, 0, 0, 0, 0, 0, 0, 0, 0, 0, 0, 0, 0, 0, 0, 0, 0, 0, 0, 0, 0, 0, 0, 0, 0, 0, 0, 0, 0, 0, 0, 0, 0, 0, 0, 0, 0, 0, 0, 0, 0, 0, 0, 0, 0, 0, 0, 0, 0, 0, 0, 0, 0, 0, 0, 0, 0, 0, 0, 0, 0, 0, 0, 0, 0, 0, 0, 0, 0, 0, 0, 0, 0, 0, 0, 0, 0, 0, 0, 0, 0, 0, 0, 0, 0, 0, 0, 0, 0, 0, 0, 0, 0, 0, 0, 0, 0, 0, 0, 0, 0, 0, 0, 0, 0, 0, 0, 0, 0, 0, 0, 0, 0, 0, 0, 0, 0, 0, 0, 0, 0, 0, 0, 0, 0, 0, 0, 0, 0, 0, 0, 0, 0, 0, 0, 0, 0, 0, 0, 0, 0, 0, 0, 0, 0, 0, 0, 0, 0, 0, 0, 0, 0, 0, 0, 0, 0, 0, 0, 0, 0, 0, 0, 0, 0, 0, 0, 0, 0, 0, 0, 0, 0, 0, 0, 0, 0, 0, 0, 0]
def spV : List Value := spN.map fun z => .int .u8 (.ofNat z)
theorem spV_eq : (Lib.asciiSpaceTab.map fun z => Value.int .u8 z) = spV := by
 have h : Lib.asciiSpaceTab = spN.map fun z => Int.ofNat z := by decide +kernel
 rw [h, List.map_map]
 rfl
def pwN : List Nat := [1, 10, 100, 1000, 10000, 100000, 1000000, 10000000, 100000000, 1000000000, 10000000000, 100000000000, 1000000000000, 10000000000000, 100000000000000, 1000000000000000, 10000000000000000, 100000000000000000, 1000000000000000000, 10000000000000000000]
def pwV : List Value := pwN.map fun z => .int .u64 (.ofNat z)
/-- what a block of the program's own variables holds -/
def tabC (b : Nat) : Option (List Value) := bif Nat.beq b 1 then some spV else bif Nat.beq b 6 then some pwV else none
/-- what is known of the unknown values -/
def EnvP : (Nat -> Option Obj) -> (Nat -> Value) -> Prop := fun _ _ => True
theorem envP_mono {K K' : Nat -> Option Obj} {env : Nat -> Value} (_ : ∀ q o, K q = some o -> K' q = some o) (_ : EnvP K env) : EnvP K' env := trivial
def TabW (w : World) : Prop := ∀ b l, tabC b = some l -> ∃ t f, w.heap[b]? = some (.cells l.toArray t f)
theorem tabW_of {w : World} (h : ∃ t f, w.heap[1]? = some (.cells (Lib.asciiSpaceTab.map fun z => Value.int .u8 z).toArray t f)) (h2 : ∃ t f, w.heap[6]? = some (.cells pwV.toArray t f)) : TabW w := fun b l hb => by
 unfold tabC at hb
 cases e : Nat.beq b 1 with
 | true =>
  rw [e, cond_true] at hb
  cases hb
  rw [Nat.eq_of_beq_eq_true e, <- spV_eq]
  exact h
 | false =>
  rw [e, cond_false] at hb
  cases e2 : Nat.beq b 6 with
  | false => rw [e2] at hb; cases hb
  | true =>
   rw [e2, cond_true] at hb
   cases hb
   rw [Nat.eq_of_beq_eq_true e2]
   exact h2
end Go.Proofs.YtnlimlboedohgaaGreatDoor.Ax
