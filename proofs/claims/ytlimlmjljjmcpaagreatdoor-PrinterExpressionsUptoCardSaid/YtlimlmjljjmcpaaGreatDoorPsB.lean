import Derived.Test.YtlimlmjljjmcpaaGreatDoorPsA
import Derived.WalkKit
import Derived.WalkSmall
import Derived.Below
import Derived.Deep.MidRow
import Derived.Great.CaseRows
import Derived.Lib.Hide
import Derived.StillTailTactics
import Derived.BigQuiet
import Derived.Deep.CutBlock
import Derived.Deep.CutRange
import Derived.Deep.AppendLies
import Derived.Deep.LoopGhost
import Derived.Lib.SliceRun
import Derived.Lib.Walk
/-
  Trees compared part by part.
-/
namespace Go.Proofs.YtlimlmjljjmcpaaGreatDoor.Ps
open Go Go.RowKit
set_option linter.unusedVariables false
/-- are two lists of trees the same -/
noncomputable def eqL : List C → List C → Bool
  | [], [] => true
  | x :: xs, y :: ys => eqC x y && eqL xs ys
  | _, _ => false
theorem eqL_true : ∀ {xs ys : List C}, eqL xs ys = true ↔ xs = ys
  | [], [] => by simp [eqL]
  | [], _ :: _ => by simp [eqL]
  | _ :: _, [] => by simp [eqL]
  | x :: xs, y :: ys => by
    simp only [eqL, Bool.and_eq_true, eqC_true, eqL_true, List.cons.injEq]
theorem bool_iff {a b : Bool} (h : a = true ↔ b = true) : a = b := by
  cases a <;> cases b <;> simp_all
theorem eqC_a (xs ys : List C) : eqC (.a xs) (.a ys) = eqL xs ys := bool_iff (by rw [eqC_true, eqL_true]; simp)
theorem eqC_s (xs ys : List C) : eqC (.s xs) (.s ys) = eqL xs ys := bool_iff (by rw [eqC_true, eqL_true]; simp)
theorem eqC_int (k : IntKind) (a b : Int) : eqC (.l (.int k a)) (.l (.int k b)) = decide (a = b) := bool_iff (by rw [eqC_true, decide_eq_true_iff]; simp)
theorem eqC_bool (a b : Bool) : eqC (.l (.bool a)) (.l (.bool b)) = decide (a = b) := bool_iff (by rw [eqC_true, decide_eq_true_iff]; simp)
theorem eqC_str (a b : ByteArray) : eqC (.l (.string a)) (.l (.string b)) = decide (a = b) := bool_iff (by rw [eqC_true, decide_eq_true_iff]; simp)
theorem eqL_cons (x y : C) (xs ys : List C) : eqL (x :: xs) (y :: ys) = (eqC x y && eqL xs ys) := rfl
theorem eqL_nil : eqL [] [] = true := rfl
theorem eqL_self (xs : List C) : eqL xs xs = true := eqL_true.2 rfl
theorem eqL_len {xs ys : List C} (h : xs.length ≠ ys.length) : eqL xs ys = false := by
  cases e : eqL xs ys with
  | false => rfl
  | true => exact absurd (congrArg List.length (eqL_true.1 e)) h
theorem eqL_at {xs ys : List C} {k : Nat} (hx : k < xs.length) (hy : k < ys.length) (h : eqC xs[k] ys[k] = false) : eqL xs ys = false := by
  cases e : eqL xs ys with
  | false => rfl
  | true =>
    have e1 := eqL_true.1 e
    subst e1
    rw [eqC_self] at h
    cases h
/-- up to k the lists are the same -/
def upTo (xs ys : List C) (k : Nat) : Prop := ∀ i (hx : i < xs.length) (hy : i < ys.length), i < k → eqC xs[i] ys[i] = true
theorem upTo_zero (xs ys : List C) : upTo xs ys 0 := fun _ _ _ h => absurd h (by omega)
theorem upTo_succ {xs ys : List C} {k : Nat} (h : upTo xs ys k) (hx : k < xs.length) (hy : k < ys.length) (hk : eqC xs[k] ys[k] = true) : upTo xs ys (k + 1) := fun i h1 h2 h3 => by
  rcases Nat.lt_or_ge i k with hlt | hge
  · exact h i h1 h2 hlt
  · obtain rfl : i = k := by omega
    exact hk
theorem upTo_all {xs ys : List C} {k : Nat} (h : upTo xs ys k) (hx : xs.length = k) (hy : ys.length = k) : eqL xs ys = true := by
  rw [eqL_true]
  exact List.ext_getElem (by omega) fun i h1 h2 => eqC_true.1 (h i h1 h2 (by omega))
end Go.Proofs.YtlimlmjljjmcpaaGreatDoor.Ps

/-
  For the comparisons: where an element of a slice lies; what a comparison yields; blocks.
-/
namespace Go.Proofs.YtlimlmjljjmcpaaGreatDoor.Ps
open Go Go.RowKit
set_option linter.unusedVariables false
set_option linter.unusedSimpArgs false
/-- what a comparison yields -/
def SamePost (w : World) (x y : C) (e : Ending) (w' : World) : Prop := e = .returned (.bool (eqC x y)) ∧ Below w.heap.size w w'
theorem SamePost.yes {w w' : World} {x y : C} (h : x = y) (hb : Below w.heap.size w w') : SamePost w x y (.returned (.bool true)) w' := ⟨by rw [eqC_true.2 h], hb⟩
theorem SamePost.no {w w' : World} {x y : C} (h : x ≠ y) (hb : Below w.heap.size w w') : SamePost w x y (.returned (.bool false)) w' := ⟨by rw [eqC_false.2 h], hb⟩
theorem toList_inj {a b : ByteArray} (h : a.toList = b.toList) : a = b := by
  rw [Lib.toList_data, Lib.toList_data] at h
  cases a
  cases b
  congr
  exact Array.toList_inj.1 h
theorem toList_iff {a b : ByteArray} : a.toList = b.toList ↔ a = b := ⟨toList_inj, fun h => by rw [h]⟩
/-- where an element of a slice lies -/
theorem elem_at {w : World} {t e : TypeId} {a : Option Addr} {n m k z : Nat} {xs : List C} (hu : Tryz.prog.underlying t = some (.slice e)) (hz : Tryz.prog.cellsOf e = z) (hz0 : 0 < z) (h : Rp Tryz.prog w t [.slice a n m] (.s xs)) (hk : k < n) :
    ∃ b o us, a = some ⟨b, o, none⟩ ∧ b < w.heap.size ∧ us.length = z ∧ (∀ j u, us[j]? = some u → w.cell? ⟨b, o + k * z + j, none⟩ = some u) ∧ ∃ hx : k < xs.length, Rp Tryz.prog w e us xs[k] := by
  obtain ⟨a', n', m', xs', e1, e2, e3, _, _, hx⟩ := h.slice_inv hu
  cases e1
  cases e2
  obtain ⟨q, us, h1, h2, h3⟩ := hx k (by omega)
  obtain ⟨q0, us0, k1, k2, _⟩ := hx 0 (by omega)
  rw [h1] at k1
  cases k1
  rw [hz] at h2 k2
  obtain ⟨_, l2, l3⟩ := World.cells?_some h2
  obtain ⟨_, m2, m3⟩ := World.cells?_some k2
  have hblk := World.cells?_block h2 hz0
  obtain ⟨b, o, s⟩ := q
  have hs : s = none := by
    have h0 := m3 0 hz0
    rw [List.getElem?_eq_getElem (by omega), Nat.zero_mul] at h0
    cases s with
    | none => rfl
    | some r =>
      exfalso
      have e0 : ((⟨b, o, some r⟩ : Addr).add 0).add 0 = ⟨b, o, some r⟩ := by simp [Addr.add]
      rw [e0] at h0
      unfold World.cell? at h0
      split at h0
      · simp at h0
      · cases h0
  subst hs
  rw [add_block] at hblk
  refine ⟨b, o, us, h1, hblk, l2, fun j u hj => ?_, by omega, h3⟩
  have hj' := (List.getElem?_eq_some_iff.1 hj).1
  have := l3 j (by omega)
  rw [hj, Addr.add_lit, Addr.add_lit] at this
  exact this
theorem slice_len {w : World} {t e : TypeId} {a : Option Addr} {n m z : Nat} {xs : List C} (hu : Tryz.prog.underlying t = some (.slice e)) (hz : Tryz.prog.bytesOf e = z) (hz0 : 0 < z) (h : Rp Tryz.prog w t [.slice a n m] (.s xs)) : xs.length = n ∧ n ≤ 140737488351232 := by
  have hb := h.bound hu
  rw [hz] at hb
  obtain ⟨a', n', m', xs', e1, e2, e3, e4, e5, _⟩ := h.slice_inv hu
  cases e1
  cases e2
  exact ⟨e3, Nat.le_trans (Nat.le_mul_of_pos_right _ hz0) hb⟩
end Go.Proofs.YtlimlmjljjmcpaaGreatDoor.Ps

/-
  Blocks known whole; names for worlds; laws at operations.
-/
namespace Go.Proofs.YtlimlmjljjmcpaaGreatDoor.Ps
open Go Go.RowKit
set_option linter.unusedVariables false
set_option linter.unusedSimpArgs false
def Blk (w : World) (g : Nat) (cs : List Value) (t : TypeId) : Prop := w.heap[g]? = some (.cells cs.toArray t (0, 0))
section
variable {w0 w w' : World} {g : Nat} {cs : List Value} {t : TypeId}
theorem Blk.new (w : World) (cs : List Value) (t : TypeId) : Blk (w.alloc (.cells cs.toArray t)) w.heap.size cs t := heap_alloc_new w _
theorem Blk.lt (h : Blk w g cs t) : g < w.heap.size := by
  rcases Nat.lt_or_ge g w.heap.size with hlt | hge
  · exact hlt
  · unfold Blk at h; rw [Array.getElem?_eq_none hge] at h; cases h
theorem Blk.grown {q : Nat} (h : Blk w g cs t) (hg : w.grownBy w' (some q)) (hne : g ≠ q) : Blk w' g cs t := (hg.block g h.lt (by simpa using hne)).trans h
theorem Blk.below (h : Blk w g cs t) (hb : Below w.heap.size w w') : Blk w' g cs t := (hb.block _ h.lt).trans h
theorem Blk.alloc (h : Blk w g cs t) (o : Obj) : Blk (w.alloc o) g cs t := h.below ((Below.refl _ _).alloc (Nat.le_refl _) _)
theorem Blk.drewN (h : Blk w g cs t) (k : Nat) : Blk (w.drewN k) g cs t := h
theorem Blk.cell (h : Blk w g cs t) (k : Nat) {u : Value} (hu : cs[k]? = some u) : w.cell? ⟨g, k, none⟩ = some u := by
  unfold Blk at h
  rw [cell_of_row w g k _ _ (0, 0) h]
  simpa using hu
theorem Blk.free (h : Blk w g cs t) (k : Nat) : w.frozen? ⟨g, k, none⟩ = false := by unfold Blk at h; simp [World.frozen?, h]
theorem Blk.set (h : Blk w g cs t) (k : Nat) (u : Value) : Blk (w.setCell ⟨g, k, none⟩ u) g (cs.set k u) t := by
  unfold Blk at h ⊢
  simp [World.setCell, Array.getElem?_modify, h]
theorem Blk.range (h : Blk w g cs t) (o m : Nat) : w.rangeAt g o ((cs.drop o).take m) := fun k u hk => by
  rw [List.getElem?_take] at hk
  split at hk
  · rw [List.getElem?_drop] at hk
    exact h.cell _ hk
  · cases hk
end
section
variable {P : Program} {ops : Array Oper} {rest : List Oper} {o : Oper} {a : Act} {w : World} {Q : Exit → Act → World → Prop}
theorem grown_setRow (w : World) (g : Nat) (cs : Array Value) : w.grownBy (w.setRow g cs) (some g) ∧ (w.setRow g cs).heap.size = w.heap.size := by
  refine ⟨⟨rfl, rfl, rfl, ?_, fun i hi hne => ?_⟩, ?_⟩
  · simp [World.setRow]
  · have : g ≠ i := fun e => hne (by rw [e])
    simp [World.setRow, Array.getElem?_modify, this]
  · simp [World.setRow]
/-- a whole struct into a block of its own: the world behind it is a name -/
theorem store_blk (hgd : o.guard = none) (ty : TypeId) (x y : Operand) (ho : o.op = .store ty x y) (g : Nat) (cs : List Value)
    (hx : a.eval x = .pointer (some ⟨g, 0, none⟩)) (hy : a.eval y = .agg cs.toArray) (t : TypeId) (old : List Value) (hg : Blk w g old t) (hi : (P.info? ty).map (·.size) = some cs.length)
    (hold : old.length = cs.length) (h1 : ∀ u ∈ cs, u.oneCell' = true)
    (h : ∀ w', Blk w' g cs t → w.grownBy w' (some g) → w'.heap.size = w.heap.size → wpList P ops Q rest (a.put o.dst undef) w') : wpList P ops Q (o :: rest) a w := by
  obtain ⟨k1, k2⟩ := grown_setRow w g cs.toArray
  refine wpList_store_row hgd ty x y ho g cs.toArray hx hy t old.toArray hg (by simpa using hi) (by simpa using hold) (all_oneCell_toArray h1) (h _ ?_ k1 k2)
  unfold Blk at hg ⊢
  simp [World.setRow, Array.getElem?_modify, hg]
end
section
variable {K : World → Prop} {w : World}
/-- a new block: the world gets a name -/
theorem name_alloc {cs : List Value} {t : TypeId} (h : ∀ w', Blk w' w.heap.size cs t → Below w.heap.size w w' → w'.heap.size = w.heap.size + 1 → K w') : K (w.alloc (.cells cs.toArray t)) :=
  h _ (Blk.new w cs t) ((Below.refl _ _).alloc (Nat.le_refl _) _) (by simp)
theorem name_alloc2 {cs1 cs2 : List Value} {t1 t2 : TypeId} (h : ∀ w', Blk w' w.heap.size cs1 t1 → Blk w' (w.heap.size + 1) cs2 t2 → Below w.heap.size w w' → w'.heap.size = w.heap.size + 1 + 1 → K w') : K ((w.alloc (.cells cs1.toArray t1)).alloc (.cells cs2.toArray t2)) := by
  refine h _ ((Blk.new w cs1 t1).alloc _) ?_ (((Below.refl _ _).alloc (Nat.le_refl _) _).alloc (by simp) _) (by simp)
  have := Blk.new (w.alloc (.cells cs1.toArray t1)) cs2 t2
  rwa [show (w.alloc (.cells cs1.toArray t1)).heap.size = w.heap.size + 1 by simp] at this
theorem name_alloc3 {cs1 cs2 cs3 : List Value} {t1 t2 t3 : TypeId} (h : ∀ w', Blk w' w.heap.size cs1 t1 → Blk w' (w.heap.size + 1) cs2 t2 → Blk w' (w.heap.size + 1 + 1) cs3 t3 → Below w.heap.size w w' → w'.heap.size = w.heap.size + 1 + 1 + 1 → K w') : K (((w.alloc (.cells cs1.toArray t1)).alloc (.cells cs2.toArray t2)).alloc (.cells cs3.toArray t3)) := by
  refine h _ (((Blk.new w cs1 t1).alloc _).alloc _) ?_ ?_ ((((Below.refl _ _).alloc (Nat.le_refl _) _).alloc (by simp) _).alloc (by simp; omega) _) (by simp)
  · have := Blk.new (w.alloc (.cells cs1.toArray t1)) cs2 t2
    rw [show (w.alloc (.cells cs1.toArray t1)).heap.size = w.heap.size + 1 by simp] at this
    exact this.alloc _
  · have := Blk.new ((w.alloc (.cells cs1.toArray t1)).alloc (.cells cs2.toArray t2)) cs3 t3
    rwa [show ((w.alloc (.cells cs1.toArray t1)).alloc (.cells cs2.toArray t2)).heap.size = w.heap.size + 1 + 1 by simp] at this
theorem below1 (w : World) (o : Obj) : Below w.heap.size w (w.alloc o) := (Below.refl _ _).alloc (Nat.le_refl _) _
end
theorem own_slice {w : World} {b : Nat} {e : TypeId} {size n : Nat} {v : Value} {xs : List Value} (h : w.ownsRow b e size v n xs) : ∃ A m c, v = .slice A m c := by
  rcases h.2 with ⟨rfl, _⟩ | ⟨g, cap, cur, rfl, _⟩
  · exact ⟨_, _, _, rfl⟩
  · exact ⟨_, _, _, rfl⟩
theorem own_len {w : World} {base : Nat} {e : TypeId} {size n m c : Nat} {A : Option Addr} {xs : List Value} (h : w.ownsRow base e size (.slice A m c) n xs) : m = n := by
  rcases h.2 with ⟨h0, h1⟩ | ⟨g, cap, cur, hv, _⟩
  · injection h0 with _ h2; rw [h2, h1]
  · injection hv
theorem own_addr {w : World} {base : Nat} {e : TypeId} {size n m c : Nat} {A : Option Addr} {xs : List Value} (h : w.ownsRow base e size (.slice A m c) n xs) (hn : 0 < n) : ∃ g, A = some ⟨g, 0, none⟩ := by
  rcases h.2 with ⟨_, h1⟩ | ⟨g, cap, cur, hv, _⟩
  · omega
  · injection hv with hv; exact ⟨g, hv⟩
theorem kept_below {w w' : World} {base : Nat} {e : TypeId} {size n : Nat} {v : Value} {xs : List Value} (h : w.ownsRow base e size v n xs) (hb : Below w.heap.size w w') : w'.ownsRow base e size v n xs :=
  h.kept (w' := w') (row := none) ⟨hb.os, hb.tape, hb.output, hb.size, fun i hi _ => hb.block i hi⟩ (by rcases v.ownBlock with _ | g; exact .inl rfl; exact .inr (by simp))
theorem only_setCell {a w : World} {g : Nat} (h : a.grownBy w (some g)) (j : Nat) (u : Value) : a.grownBy (w.setCell ⟨g, j, none⟩ u) (some g) :=
  ⟨h.os, h.tape, h.output, by simpa [World.setCell] using h.size, fun i hi hne => (Below.heap_setCell w _ u i (by rintro rfl; exact hne rfl)).trans (h.block i hi hne)⟩

section
variable {P : Program} {ops : Array Oper} {rest : List Oper} {o : Oper} {a : Act} {w : World} {Q : Exit → Act → World → Prop}
/-- a copy of a struct in a new block -/
theorem box_new (hg : o.guard = none) (t : TypeId) (x : Operand) (ho : o.op = .box t x) (cs : List Value) (hx : a.eval x = .agg cs.toArray)
    (h : ∀ w', Blk w' w.heap.size cs t → Below w.heap.size w w' → w'.heap.size = w.heap.size + 1 → wpList P ops Q rest (a.put o.dst (.pointer (some ⟨w.heap.size, 0, none⟩))) w') : wpList P ops Q (o :: rest) a w :=
  Go.Great.wpList_boxTo hg t x ho _ rfl _ rfl cs.toArray (by rw [hx]; rfl) (h _ (Blk.new w cs t) (below1 _ _) (by simp))
/-- a slice of one struct -/
theorem build_one (hg : o.guard = none) (t e : TypeId) (k1 : Tmp) (ho : o.op = .buildSlice t 1 #[(0, .tmp k1)]) (s : Nat) (cs : List Value) (h1 : a.eval (.tmp k1) = .agg cs.toArray)
    (hu : P.underlying t = some (.slice e)) (hsz : (P.info? e).map (·.size) = some s) (hz : ((P.info? e).bind (·.zero)).isSome = true) (hs : 0 < s) (hs' : s ≤ 1000) (l1 : cs.length = s)
    (h : ∀ w', Blk w' w.heap.size cs e → Below w.heap.size w w' → w'.heap.size = w.heap.size + 1 → wpList P ops Q rest (a.put o.dst (.slice (some ⟨w.heap.size, 0, none⟩) 1 1)) w') : wpList P ops Q (o :: rest) a w := by
  refine Go.Great.wpList_buildRows hg t e _ s [.agg cs.toArray] ho (fun i => k1) _ rfl _ rfl hu hsz hz hs (by simp) (by simp; omega) rfl ?_ ?_ ?_
  · intro v hv
    simp at hv
    rw [hv]
    simp [Value.cells, l1]
  · intro i hi
    have : i = 0 := by simpa using hi
    subst this
    simpa using h1
  · have := h _ (Blk.new w cs e) (below1 _ _) (by simp)
    simpa [Value.cells] using this
/-- an operation whose guard is met -/
theorem op_met (hw : Region.wanted o (yielded ops a.tmps) = true) (h : wpList P ops Q ({ o with guard := none } :: rest) a w) : wpList P ops Q (o :: rest) a w :=
  by
    unfold wpList at h ⊢
    rw [if_pos (by simp [Region.wanted])] at h
    rw [if_pos hw]
    exact h
end
theorem below1' {n : Nat} (w : World) (o : Obj) (h : n ≤ w.heap.size := by simp) : Below n w (w.alloc o) := (Below.refl _ _).alloc h _
theorem belowD (w : World) (k : Nat) : Below w.heap.size w (w.drewN k) := ⟨rfl, rfl, rfl, Nat.le_refl _, fun _ _ => rfl⟩
theorem name_drew {w : World} {K : World → Prop} {k : Nat} (h : ∀ w', Below w.heap.size w w' → w'.heap.size = w.heap.size → K w') : K (w.drewN k) :=
  h _ (belowD w k) rfl
theorem Blk.all {w : World} {g : Nat} {t : TypeId} {cs : List Value} (h : Blk w g cs t) : w.rangeAt g 0 cs := fun j u hj => by
  rw [Nat.zero_add]
  exact h.cell j hj
/-- part of a block's cells -/
theorem Blk.part {w : World} {g : Nat} {t : TypeId} {cs : List Value} (h : Blk w g cs t) (o m : Nat) : w.rangeAt g o ((cs.drop o).take m) := h.range o m
end Go.Proofs.YtlimlmjljjmcpaaGreatDoor.Ps
