/-
  What the library's variables hold; strconv.Itoa; slices that a walk owns.
-/
import Derived.Test.YtnlimlboedohgaaGreatDoorLnA
import Derived.Test.YtnlimlboedohgaaGreatDoorShelf2
import Derived.WalkSmall
namespace Go.Proofs.YtnlimlboedohgaaGreatDoor
open Go.RowKit
set_option linter.unusedVariables false
set_option linter.unusedSimpArgs false

/-- what the library's variables hold -/
structure Env (w : World) : Prop where
 tab : Tab w
 pow : Lib.TabIs Tryz.prog w "internal/strconv.uint64pow10" .u64 Lib.pow10Tab
 maxl : ∃ m, w.cell? ⟨0, 0, none⟩ = some (.int .i64 m)
theorem gPow : Tryz.prog.globalNamed "internal/strconv.uint64pow10" = some 6 := by kernel_rfl
theorem lt_of_cell {w : World} {b o : Nat} {v : Value} (h : w.cell? ⟨b, o, none⟩ = some v) : b < w.heap.size := by
 rcases Nat.lt_or_ge b w.heap.size with hlt | hge
 ·exact hlt
 ·simp [World.cell?, Array.getElem?_eq_none hge] at h
theorem Env.below {w w' : World} (h : Env w) (hb : Below w.heap.size w w') : Env w' := by
 refine ⟨h.tab.below hb, ?_, ?_⟩
 ·have hc := h.pow.cell gPow 0 (by decide)
  exact var?_below hb gPow (lt_of_cell hc) h.pow
 ·obtain ⟨m, hm⟩ := h.maxl
  exact ⟨m, (hb.cell (p := ⟨_, 0, none⟩) (lt_of_cell hm)).trans hm⟩
theorem Env.alloc {w : World} (h : Env w) (o : Obj) : Env (w.alloc o) := h.below ((Below.refl _ _).alloc (Nat.le_refl _) _)
theorem own_cap {w : World} {base : Nat} {e : TypeId} {size n m c : Nat} {A : Option Addr} {xs : List Value} (h : w.ownsRow base e size (.slice A m c) n xs) : n <= c := by
 rcases h.2 with ⟨h0, h1⟩ | ⟨g, cap, cur, hv, _, _, hc, _⟩
 ·omega
 ·injection hv with _ _ e3; omega
theorem kept_below {w w' : World} {base : Nat} {e : TypeId} {size n : Nat} {v : Value} {xs : List Value} (h : w.ownsRow base e size v n xs) (hb : Below w.heap.size w w') : w'.ownsRow base e size v n xs :=
 h.kept (w' := w') (row := none) ⟨hb.os, hb.tape, hb.output, hb.size, fun i hi _ => hb.block i hi⟩ (by rcases v.ownBlock with _ | g; exact .inl rfl; exact .inr (by simp))
end Go.Proofs.YtnlimlboedohgaaGreatDoor
