/-
  Blocks known whole; names for worlds; laws at operations.
-/
import Derived.Test.YtlimlmjljjmcpaaGreatDoorPsBase
import Derived.BigQuiet
import Derived.Deep.CutBlock
import Derived.Deep.CutRange
import Derived.Deep.AppendLies
import Derived.Deep.LoopGhost
import Derived.Lib.SliceRun
import Derived.Lib.Walk
namespace Go.Proofs.YtlimlmjljjmcpaaGreatDoor.Ps
open Go Go.RowKit
set_option linter.unusedVariables false
set_option linter.unusedSimpArgs false
def Blk (w : World) (g : Nat) (cs : List Value) (t : TypeId) : Prop := w.heap[g]? = some (.cells cs.toArray t (0, 0))
section
variable {w0 w w' : World} {g : Nat} {cs : List Value} {t : TypeId}
theorem Blk.new (w : World) (cs : List Value) (t : TypeId) : Blk (w.alloc (.cells cs.toArray t)) w.heap.size cs t := heap_alloc_new w _
theorem Blk.lt (h : Blk w g cs t) : g < w.heap.size := by
  rcases Nat.lt_or_ge g w.heap.size with hlt | hge
  · exact hlt
  · unfold Blk at h; rw [Array.getElem?_eq_none hge] at h; cases h
theorem Blk.grown {q : Nat} (h : Blk w g cs t) (hg : w.grownBy w' (some q)) (hne : g ≠ q) : Blk w' g cs t := (hg.block g h.lt (by simpa using hne)).trans h
theorem Blk.below (h : Blk w g cs t) (hb : Below w.heap.size w w') : Blk w' g cs t := (hb.block _ h.lt).trans h
theorem Blk.alloc (h : Blk w g cs t) (o : Obj) : Blk (w.alloc o) g cs t := h.below ((Below.refl _ _).alloc (Nat.le_refl _) _)
theorem Blk.drewN (h : Blk w g cs t) (k : Nat) : Blk (w.drewN k) g cs t := h
theorem Blk.cell (h : Blk w g cs t) (k : Nat) {u : Value} (hu : cs[k]? = some u) : w.cell? ⟨g, k, none⟩ = some u := by
  unfold Blk at h
  rw [cell_of_row w g k _ _ (0, 0) h]
  simpa using hu
theorem Blk.free (h : Blk w g cs t) (k : Nat) : w.frozen? ⟨g, k, none⟩ = false := by unfold Blk at h; simp [World.frozen?, h]
theorem Blk.set (h : Blk w g cs t) (k : Nat) (u : Value) : Blk (w.setCell ⟨g, k, none⟩ u) g (cs.set k u) t := by
  unfold Blk at h ⊢
  simp [World.setCell, Array.getElem?_modify, h]
theorem Blk.range (h : Blk w g cs t) (o m : Nat) : w.rangeAt g o ((cs.drop o).take m) := fun k u hk => by
  rw [List.getElem?_take] at hk
  split at hk
  · rw [List.getElem?_drop] at hk
    exact h.cell _ hk
  · cases hk
end
section
variable {P : Program} {ops : Array Oper} {rest : List Oper} {o : Oper} {a : Act} {w : World} {Q : Exit → Act → World → Prop}
theorem grown_setRow (w : World) (g : Nat) (cs : Array Value) : w.grownBy (w.setRow g cs) (some g) ∧ (w.setRow g cs).heap.size = w.heap.size := by
  refine ⟨⟨rfl, rfl, rfl, ?_, fun i hi hne => ?_⟩, ?_⟩
  · simp [World.setRow]
  · have : g ≠ i := fun e => hne (by rw [e])
    simp [World.setRow, Array.getElem?_modify, this]
  · simp [World.setRow]
/-- a whole struct into a block of its own: the world behind it is a name -/
theorem store_blk (hgd : o.guard = none) (ty : TypeId) (x y : Operand) (ho : o.op = .store ty x y) (g : Nat) (cs : List Value)
    (hx : a.eval x = .pointer (some ⟨g, 0, none⟩)) (hy : a.eval y = .agg cs.toArray) (t : TypeId) (old : List Value) (hg : Blk w g old t) (hi : (P.info? ty).map (·.size) = some cs.length)
    (hold : old.length = cs.length) (h1 : ∀ u ∈ cs, u.oneCell' = true)
    (h : ∀ w', Blk w' g cs t → w.grownBy w' (some g) → w'.heap.size = w.heap.size → wpList P ops Q rest (a.put o.dst undef) w') : wpList P ops Q (o :: rest) a w := by
  obtain ⟨k1, k2⟩ := grown_setRow w g cs.toArray
  refine wpList_store_row hgd ty x y ho g cs.toArray hx hy t old.toArray hg (by simpa using hi) (by simpa using hold) (all_oneCell_toArray h1) (h _ ?_ k1 k2)
  unfold Blk at hg ⊢
  simp [World.setRow, Array.getElem?_modify, hg]
end
section
variable {K : World → Prop} {w : World}
/-- a new block: the world gets a name -/
theorem name_alloc {cs : List Value} {t : TypeId} (h : ∀ w', Blk w' w.heap.size cs t → Below w.heap.size w w' → w'.heap.size = w.heap.size + 1 → K w') : K (w.alloc (.cells cs.toArray t)) :=
  h _ (Blk.new w cs t) ((Below.refl _ _).alloc (Nat.le_refl _) _) (by simp)
theorem name_alloc2 {cs1 cs2 : List Value} {t1 t2 : TypeId} (h : ∀ w', Blk w' w.heap.size cs1 t1 → Blk w' (w.heap.size + 1) cs2 t2 → Below w.heap.size w w' → w'.heap.size = w.heap.size + 1 + 1 → K w') : K ((w.alloc (.cells cs1.toArray t1)).alloc (.cells cs2.toArray t2)) := by
  refine h _ ((Blk.new w cs1 t1).alloc _) ?_ (((Below.refl _ _).alloc (Nat.le_refl _) _).alloc (by simp) _) (by simp)
  have := Blk.new (w.alloc (.cells cs1.toArray t1)) cs2 t2
  rwa [show (w.alloc (.cells cs1.toArray t1)).heap.size = w.heap.size + 1 by simp] at this
theorem name_alloc3 {cs1 cs2 cs3 : List Value} {t1 t2 t3 : TypeId} (h : ∀ w', Blk w' w.heap.size cs1 t1 → Blk w' (w.heap.size + 1) cs2 t2 → Blk w' (w.heap.size + 1 + 1) cs3 t3 → Below w.heap.size w w' → w'.heap.size = w.heap.size + 1 + 1 + 1 → K w') : K (((w.alloc (.cells cs1.toArray t1)).alloc (.cells cs2.toArray t2)).alloc (.cells cs3.toArray t3)) := by
  refine h _ (((Blk.new w cs1 t1).alloc _).alloc _) ?_ ?_ ((((Below.refl _ _).alloc (Nat.le_refl _) _).alloc (by simp) _).alloc (by simp; omega) _) (by simp)
  · have := Blk.new (w.alloc (.cells cs1.toArray t1)) cs2 t2
    rw [show (w.alloc (.cells cs1.toArray t1)).heap.size = w.heap.size + 1 by simp] at this
    exact this.alloc _
  · have := Blk.new ((w.alloc (.cells cs1.toArray t1)).alloc (.cells cs2.toArray t2)) cs3 t3
    rwa [show ((w.alloc (.cells cs1.toArray t1)).alloc (.cells cs2.toArray t2)).heap.size = w.heap.size + 1 + 1 by simp] at this
theorem below1 (w : World) (o : Obj) : Below w.heap.size w (w.alloc o) := (Below.refl _ _).alloc (Nat.le_refl _) _
end
theorem own_slice {w : World} {b : Nat} {e : TypeId} {size n : Nat} {v : Value} {xs : List Value} (h : w.ownsRow b e size v n xs) : ∃ A m c, v = .slice A m c := by
  rcases h.2 with ⟨rfl, _⟩ | ⟨g, cap, cur, rfl, _⟩
  · exact ⟨_, _, _, rfl⟩
  · exact ⟨_, _, _, rfl⟩
theorem own_len {w : World} {base : Nat} {e : TypeId} {size n m c : Nat} {A : Option Addr} {xs : List Value} (h : w.ownsRow base e size (.slice A m c) n xs) : m = n := by
  rcases h.2 with ⟨h0, h1⟩ | ⟨g, cap, cur, hv, _⟩
  · injection h0 with _ h2; rw [h2, h1]
  · injection hv
theorem own_addr {w : World} {base : Nat} {e : TypeId} {size n m c : Nat} {A : Option Addr} {xs : List Value} (h : w.ownsRow base e size (.slice A m c) n xs) (hn : 0 < n) : ∃ g, A = some ⟨g, 0, none⟩ := by
  rcases h.2 with ⟨_, h1⟩ | ⟨g, cap, cur, hv, _⟩
  · omega
  · injection hv with hv; exact ⟨g, hv⟩
theorem kept_below {w w' : World} {base : Nat} {e : TypeId} {size n : Nat} {v : Value} {xs : List Value} (h : w.ownsRow base e size v n xs) (hb : Below w.heap.size w w') : w'.ownsRow base e size v n xs :=
  h.kept (w' := w') (row := none) ⟨hb.os, hb.tape, hb.output, hb.size, fun i hi _ => hb.block i hi⟩ (by rcases v.ownBlock with _ | g; exact .inl rfl; exact .inr (by simp))
theorem only_setCell {a w : World} {g : Nat} (h : a.grownBy w (some g)) (j : Nat) (u : Value) : a.grownBy (w.setCell ⟨g, j, none⟩ u) (some g) :=
  ⟨h.os, h.tape, h.output, by simpa [World.setCell] using h.size, fun i hi hne => (Below.heap_setCell w _ u i (by rintro rfl; exact hne rfl)).trans (h.block i hi hne)⟩

section
variable {P : Program} {ops : Array Oper} {rest : List Oper} {o : Oper} {a : Act} {w : World} {Q : Exit → Act → World → Prop}
/-- a copy of a struct in a new block -/
theorem box_new (hg : o.guard = none) (t : TypeId) (x : Operand) (ho : o.op = .box t x) (cs : List Value) (hx : a.eval x = .agg cs.toArray)
    (h : ∀ w', Blk w' w.heap.size cs t → Below w.heap.size w w' → w'.heap.size = w.heap.size + 1 → wpList P ops Q rest (a.put o.dst (.pointer (some ⟨w.heap.size, 0, none⟩))) w') : wpList P ops Q (o :: rest) a w :=
  Go.Great.wpList_boxTo hg t x ho _ rfl _ rfl cs.toArray (by rw [hx]; rfl) (h _ (Blk.new w cs t) (below1 _ _) (by simp))
/-- a slice of one struct -/
theorem build_one (hg : o.guard = none) (t e : TypeId) (k1 : Tmp) (ho : o.op = .buildSlice t 1 #[(0, .tmp k1)]) (s : Nat) (cs : List Value) (h1 : a.eval (.tmp k1) = .agg cs.toArray)
    (hu : P.underlying t = some (.slice e)) (hsz : (P.info? e).map (·.size) = some s) (hz : ((P.info? e).bind (·.zero)).isSome = true) (hs : 0 < s) (hs' : s ≤ 1000) (l1 : cs.length = s)
    (h : ∀ w', Blk w' w.heap.size cs e → Below w.heap.size w w' → w'.heap.size = w.heap.size + 1 → wpList P ops Q rest (a.put o.dst (.slice (some ⟨w.heap.size, 0, none⟩) 1 1)) w') : wpList P ops Q (o :: rest) a w := by
  refine Go.Great.wpList_buildRows hg t e _ s [.agg cs.toArray] ho (fun i => k1) _ rfl _ rfl hu hsz hz hs (by simp) (by simp; omega) rfl ?_ ?_ ?_
  · intro v hv
    simp at hv
    rw [hv]
    simp [Value.cells, l1]
  · intro i hi
    have : i = 0 := by simpa using hi
    subst this
    simpa using h1
  · have := h _ (Blk.new w cs e) (below1 _ _) (by simp)
    simpa [Value.cells] using this
/-- an operation whose guard is met -/
theorem op_met (hw : Region.wanted o (yielded ops a.tmps) = true) (h : wpList P ops Q ({ o with guard := none } :: rest) a w) : wpList P ops Q (o :: rest) a w :=
  by
    unfold wpList at h ⊢
    rw [if_pos (by simp [Region.wanted])] at h
    rw [if_pos hw]
    exact h
end
theorem below1' {n : Nat} (w : World) (o : Obj) (h : n ≤ w.heap.size := by simp) : Below n w (w.alloc o) := (Below.refl _ _).alloc h _
theorem belowD (w : World) (k : Nat) : Below w.heap.size w (w.drewN k) := ⟨rfl, rfl, rfl, Nat.le_refl _, fun _ _ => rfl⟩
theorem name_drew {w : World} {K : World → Prop} {k : Nat} (h : ∀ w', Below w.heap.size w w' → w'.heap.size = w.heap.size → K w') : K (w.drewN k) :=
  h _ (belowD w k) rfl
theorem Blk.all {w : World} {g : Nat} {t : TypeId} {cs : List Value} (h : Blk w g cs t) : w.rangeAt g 0 cs := fun j u hj => by
  rw [Nat.zero_add]
  exact h.cell j hj
/-- part of a block's cells -/
theorem Blk.part {w : World} {g : Nat} {t : TypeId} {cs : List Value} (h : Blk w g cs t) (o m : Nat) : w.rangeAt g o ((cs.drop o).take m) := h.range o m
end Go.Proofs.YtlimlmjljjmcpaaGreatDoor.Ps
