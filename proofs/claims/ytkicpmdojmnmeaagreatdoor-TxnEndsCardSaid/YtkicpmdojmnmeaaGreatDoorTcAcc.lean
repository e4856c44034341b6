/-
  A slice that grows in a cell of a block of the walk's own.
-/
import Derived.Test.YtkicpmdojmnmeaaGreatDoorTcPerf
import Derived.Test.YtkicpmdojmnmeaaGreatDoorTcCloneE
import Derived.Deep.RegionLaw
import Derived.Deep.RegionHeld3
import Derived.Deep.DeepCutAuto
import Derived.BigRegion
namespace Go.Proofs.YtkicpmdojmnmeaaGreatDoor
open Go.RowKit Go.Proofs.YtkicpmdojmnmeaaGreatDoor.Ps
set_option linter.unusedVariables false
/-- all below n is as it was, but for the block g -/
structure But (n g : Nat) (w w' : World) : Prop where
  os : w'.os = w.os
  tape : w'.tape = w.tape
  output : w'.output = w.output
  size : w.heap.size ≤ w'.heap.size
  block : ∀ q, q < w.heap.size → q < n → q ≠ g → w'.heap[q]? = w.heap[q]?
section
variable {n g : Nat} {w w1 w2 : World}
theorem But.refl : But n g w w := ⟨rfl, rfl, rfl, Nat.le_refl _, fun _ _ _ _ => rfl⟩
theorem But.below {m : Nat} (h : But n g w w1) (hb : Below m w1 w2) (hm : n ≤ m) : But n g w w2 :=
  ⟨hb.os.trans h.os, hb.tape.trans h.tape, hb.output.trans h.output, Nat.le_trans h.size hb.size, fun q h1 h2 h3 => (hb.block q (by omega)).trans (h.block q h1 h2 h3)⟩
theorem But.grown {o : Option Nat} (h : But n g w w1) (hb : w1.grownBy w2 o) (ho : ∀ q, o = some q → n ≤ q ∨ q = g) : But n g w w2 :=
  ⟨hb.os.trans h.os, hb.tape.trans h.tape, hb.output.trans h.output, Nat.le_trans h.size hb.size, fun q h1 h2 h3 => (hb.block q (Nat.lt_of_lt_of_le h1 h.size) (fun e => by rcases ho q e.symm with h4 | h4; exact absurd h2 (by omega); exact h3 h4)).trans (h.block q h1 h2 h3)⟩
theorem But.set (h : But n g w w1) (j : Nat) (u : Value) : But n g w (w1.setCell ⟨g, j, none⟩ u) :=
  h.grown (only_setCell (World.grownBy.refl _ _) j u) (fun q e => .inr (by injection e with e; exact e.symm))
theorem But.old {m : Nat} {w0 : World} (h : But n g w w1) (h0 : Below m w0 w) (hm : m ≤ n) (hg : m ≤ g) (hs : m ≤ w.heap.size) : Below m w0 w1 :=
  h0.trans ⟨h.os, h.tape, h.output, h.size, fun q hq => h.block q (by omega) (by omega) (by omega)⟩
theorem But.blk {q : Nat} {cs : List Value} {t : TypeId} (h : But n g w w1) (hb : Blk w q cs t) (hq : q < n) (hne : q ≠ g) : Blk w1 q cs t := (h.block q hb.lt hq hne).trans hb
end
theorem Blk.push {w w' : World} {g : Nat} {cs : List Value} {t : TypeId} {o : Option Nat} (h : Blk w g cs t) (hg : w.grownBy w' o) (hne : o ≠ some g) : Blk w' g cs t := (hg.block g h.lt (fun e => hne e.symm)).trans h
/-- where the loop stands: k elements lie in the slice that a cell of the block g holds -/
structure AccF (w1 : World) (n g : Nat) (F : Value → List Value) (te ts : TypeId) (size k : Nat) (wr : World) : Prop where
  blk : ∃ A cap, Blk wr g (F (.slice A k cap)) ts ∧ ∃ xs, wr.ownsRow n te size (.slice A k cap) k xs
  but : But n g w1 wr
theorem belowD (w : World) (k : Nat) : Below w.heap.size w (w.drewN k) := ⟨rfl, rfl, rfl, Nat.le_refl _, fun _ _ => rfl⟩
theorem bDA (w : World) (o : Obj) : Below w.heap.size w ((w.alloc o).drew) := (below1 w o).trans ⟨rfl, rfl, rfl, Nat.le_refl _, fun _ _ => rfl⟩
theorem sDA (w : World) (o : Obj) : w.heap.size ≤ ((w.alloc o).drew).heap.size := (below1 w o).size
/-- a call behind a draw -/
theorem step0 {w w5 : World} (h : Below w.drew.heap.size w.drew w5) : Below w.heap.size w w5 := (belowD w 1).trans h
/-- a call behind a draw and a new block -/
theorem step1 {w w5 : World} {o : Obj} (h : Below ((w.alloc o).drew).heap.size ((w.alloc o).drew) w5) : Below w.heap.size w w5 := (bDA w o).trans (h.mono (sDA w o))
/-- a call behind a new block -/
theorem step2 {w w5 : World} {o : Obj} (h : Below (w.alloc o).heap.size (w.alloc o) w5) : Below w.heap.size w w5 := (below1 w o).trans (h.mono (below1 w o).size)
theorem new1 {w w5 : World} {cs : List Value} {t : TypeId} (h : Below ((w.alloc (.cells cs.toArray t)).drew).heap.size ((w.alloc (.cells cs.toArray t)).drew) w5) : Blk w5 w.heap.size cs t := Blk.below (w := (w.alloc (.cells cs.toArray t)).drew) (Blk.new w cs t) h
theorem new2 {w w5 : World} {cs : List Value} {t : TypeId} (h : Below (w.alloc (.cells cs.toArray t)).heap.size (w.alloc (.cells cs.toArray t)) w5) : Blk w5 w.heap.size cs t := (Blk.new w cs t).below h
end Go.Proofs.YtkicpmdojmnmeaaGreatDoor
