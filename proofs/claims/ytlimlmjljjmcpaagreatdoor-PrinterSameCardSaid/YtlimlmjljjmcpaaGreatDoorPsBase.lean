/-
  For the comparisons: where an element of a slice lies; what a comparison yields; blocks.
-/
import Derived.Test.YtlimlmjljjmcpaaGreatDoorPsShape
import Derived.Test.YtlimlmjljjmcpaaGreatDoorPsEq
import Derived.WalkKit
import Derived.WalkSmall
import Derived.Below
import Derived.Deep.MidRow
import Derived.Great.CaseRows
import Derived.Lib.Hide
import Derived.StillTailTactics
namespace Go.Proofs.YtlimlmjljjmcpaaGreatDoor.Ps
open Go Go.RowKit
set_option linter.unusedVariables false
set_option linter.unusedSimpArgs false
/-- what a comparison yields -/
def SamePost (w : World) (x y : C) (e : Ending) (w' : World) : Prop := e = .returned (.bool (eqC x y)) ∧ Below w.heap.size w w'
theorem SamePost.yes {w w' : World} {x y : C} (h : x = y) (hb : Below w.heap.size w w') : SamePost w x y (.returned (.bool true)) w' := ⟨by rw [eqC_true.2 h], hb⟩
theorem SamePost.no {w w' : World} {x y : C} (h : x ≠ y) (hb : Below w.heap.size w w') : SamePost w x y (.returned (.bool false)) w' := ⟨by rw [eqC_false.2 h], hb⟩
theorem toList_inj {a b : ByteArray} (h : a.toList = b.toList) : a = b := by
  rw [Lib.toList_data, Lib.toList_data] at h
  cases a
  cases b
  congr
  exact Array.toList_inj.1 h
theorem toList_iff {a b : ByteArray} : a.toList = b.toList ↔ a = b := ⟨toList_inj, fun h => by rw [h]⟩
/-- where an element of a slice lies -/
theorem elem_at {w : World} {t e : TypeId} {a : Option Addr} {n m k z : Nat} {xs : List C} (hu : Tryz.prog.underlying t = some (.slice e)) (hz : Tryz.prog.cellsOf e = z) (hz0 : 0 < z) (h : Rp Tryz.prog w t [.slice a n m] (.s xs)) (hk : k < n) :
    ∃ b o us, a = some ⟨b, o, none⟩ ∧ b < w.heap.size ∧ us.length = z ∧ (∀ j u, us[j]? = some u → w.cell? ⟨b, o + k * z + j, none⟩ = some u) ∧ ∃ hx : k < xs.length, Rp Tryz.prog w e us xs[k] := by
  obtain ⟨a', n', m', xs', e1, e2, e3, _, _, hx⟩ := h.slice_inv hu
  cases e1
  cases e2
  obtain ⟨q, us, h1, h2, h3⟩ := hx k (by omega)
  obtain ⟨q0, us0, k1, k2, _⟩ := hx 0 (by omega)
  rw [h1] at k1
  cases k1
  rw [hz] at h2 k2
  obtain ⟨_, l2, l3⟩ := World.cells?_some h2
  obtain ⟨_, m2, m3⟩ := World.cells?_some k2
  have hblk := World.cells?_block h2 hz0
  obtain ⟨b, o, s⟩ := q
  have hs : s = none := by
    have h0 := m3 0 hz0
    rw [List.getElem?_eq_getElem (by omega), Nat.zero_mul] at h0
    cases s with
    | none => rfl
    | some r =>
      exfalso
      have e0 : ((⟨b, o, some r⟩ : Addr).add 0).add 0 = ⟨b, o, some r⟩ := by simp [Addr.add]
      rw [e0] at h0
      unfold World.cell? at h0
      split at h0
      · simp at h0
      · cases h0
  subst hs
  rw [add_block] at hblk
  refine ⟨b, o, us, h1, hblk, l2, fun j u hj => ?_, by omega, h3⟩
  have hj' := (List.getElem?_eq_some_iff.1 hj).1
  have := l3 j (by omega)
  rw [hj, Addr.add_lit, Addr.add_lit] at this
  exact this
theorem slice_len {w : World} {t e : TypeId} {a : Option Addr} {n m z : Nat} {xs : List C} (hu : Tryz.prog.underlying t = some (.slice e)) (hz : Tryz.prog.bytesOf e = z) (hz0 : 0 < z) (h : Rp Tryz.prog w t [.slice a n m] (.s xs)) : xs.length = n ∧ n ≤ 140737488351232 := by
  have hb := h.bound hu
  rw [hz] at hb
  obtain ⟨a', n', m', xs', e1, e2, e3, e4, e5, _⟩ := h.slice_inv hu
  cases e1
  cases e2
  exact ⟨e3, Nat.le_trans (Nat.le_mul_of_pos_right _ hz0) hb⟩
end Go.Proofs.YtlimlmjljjmcpaaGreatDoor.Ps
