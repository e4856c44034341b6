/-
  How values and expressions lie.
-/
import Derived.Test.YtkicpmdojmnmeaaGreatDoorTcBase
namespace Go.Proofs.YtkicpmdojmnmeaaGreatDoor
open Go.RowKit Go.Proofs.YtkicpmdojmnmeaaGreatDoor.Ps
set_option linter.unusedVariables false
set_option linter.unusedSimpArgs false
theorem cells_int : Tryz.prog.cellsOf 3 = 1 := by kernel_rfl
theorem cells_str : Tryz.prog.cellsOf 9 = 1 := by kernel_rfl
theorem cells_val : Tryz.prog.cellsOf 24 = 3 := by kernel_rfl
theorem cells_expr : Tryz.prog.cellsOf 27 = 7 := by kernel_rfl
theorem cells_exprs : Tryz.prog.cellsOf 25 = 1 := by kernel_rfl
theorem len3 {α : Type} : ∀ {l : List α}, l.length = 3 → ∃ a b c, l = [a, b, c]
  | [a, b, c], _ => ⟨a, b, c, rfl⟩
theorem len7 {α : Type} : ∀ {l : List α}, l.length = 7 → ∃ a b c d e f g, l = [a, b, c, d, e, f, g]
  | [a, b, c, d, e, f, g], _ => ⟨a, b, c, d, e, f, g, rfl⟩
theorem rp_value {w : World} {cs : List Value} {c : C} (h : Rp Tryz.prog w 24 cs c) : ∃ k i s, cs = [.int .i64 k, .int .i64 i, .string s] := by
  obtain ⟨ys, rfl, hn, hl, hx⟩ := h.struct_inv Tryz.underlying24
  obtain ⟨a, b, d, rfl⟩ := len3 (hn.trans cells_val)
  have h0 := hx 0 (by decide) (by rw [hl]; decide)
  have h1 := hx 1 (by decide) (by rw [hl]; decide)
  have h2 := hx 2 (by decide) (by rw [hl]; decide)
  simp [cells_int, cells_str] at h0 h1 h2
  obtain ⟨k, e0, _⟩ := h0.int_inv Tryz.underlying3
  obtain ⟨i, e1, _⟩ := h1.int_inv Tryz.underlying3
  obtain ⟨s, e2, _⟩ := h2.string_inv Tryz.underlying9
  cases e0
  cases e1
  cases e2
  exact ⟨_, _, _, rfl⟩
theorem rp_expr {w : World} {cs : List Value} {c : C} (h : Rp Tryz.prog w 27 cs c) : ∃ op i k vi s nm a n m xs, cs = [.int .i64 op, .int .i64 i, .int .i64 k, .int .i64 vi, .string s, .string nm, .slice a n m] ∧ Rp Tryz.prog w 25 [.slice a n m] (.s xs) ∧ ∃ ys, c = .a ys ∧ C.s xs ∈ ys := by
  obtain ⟨ys, rfl, hn, hl, hx⟩ := h.struct_inv Tryz.underlying27
  obtain ⟨a0, a1, a2, a3, a4, a5, a6, rfl⟩ := len7 (hn.trans cells_expr)
  have h0 := hx 0 (by decide) (by rw [hl]; decide)
  have h1 := hx 1 (by decide) (by rw [hl]; decide)
  have h2 := hx 2 (by decide) (by rw [hl]; decide)
  have h3 := hx 3 (by decide) (by rw [hl]; decide)
  have h4 := hx 4 (by decide) (by rw [hl]; decide)
  simp [cells_int, cells_str, cells_val, cells_exprs] at h0 h1 h2 h3 h4
  obtain ⟨k, e0, _⟩ := h0.int_inv Tryz.underlying3
  obtain ⟨i, e1, _⟩ := h1.int_inv Tryz.underlying3
  obtain ⟨vk, vi, vs, e2⟩ := rp_value h2
  obtain ⟨s, e3, _⟩ := h3.string_inv Tryz.underlying9
  obtain ⟨a, n, m, xs, e4, e5, _⟩ := h4.slice_inv Tryz.underlying25
  cases e0
  cases e1
  cases e2
  cases e3
  cases e4
  rw [e5] at h4
  refine ⟨_, _, _, _, _, _, _, _, _, xs, rfl, h4, ?_⟩
  refine ⟨ys, rfl, ?_⟩
  rw [← e5]
  exact List.getElem_mem _
theorem sub_size {c x : C} {ys : List C} (hc : c = .a ys) (hx : x ∈ ys) : SizeOf.sizeOf x < SizeOf.sizeOf c := by
  subst hc
  have := List.sizeOf_lt_of_mem hx
  simp only [C.a.sizeOf_spec]
  omega
/-- (what once bounded the lists: how long a list is stands in its reading) -/
def Sm (_ : C) : Prop := True
theorem bytes_expr : Tryz.prog.bytesOf 27 = 88 := by kernel_rfl
theorem expr_bound {w : World} {a : Option Addr} {n m : Nat} {c : C} (h : Rp Tryz.prog w 25 [.slice a n m] c) : n * 88 ≤ 140737488351232 := by
  have h1 := h.bound Tryz.underlying25
  rw [bytes_expr] at h1
  exact h1
/-- where an element of a slice lies -/
theorem elem_at {w : World} {t e : TypeId} {a : Option Addr} {n m k z : Nat} {xs : List C} (hu : Tryz.prog.underlying t = some (.slice e)) (hz : Tryz.prog.cellsOf e = z) (hz0 : 0 < z) (h : Rp Tryz.prog w t [.slice a n m] (.s xs)) (hk : k < n) :
    ∃ b o us, a = some ⟨b, o, none⟩ ∧ b < w.heap.size ∧ us.length = z ∧ (∀ j u, us[j]? = some u → w.cell? ⟨b, o + k * z + j, none⟩ = some u) ∧ ∃ hx : k < xs.length, Rp Tryz.prog w e us xs[k] := by
  obtain ⟨a', n', m', xs', e1, e2, e3, _, _, hx⟩ := h.slice_inv hu
  cases e1
  cases e2
  obtain ⟨q, us, h1, h2, h3⟩ := hx k (by omega)
  obtain ⟨q0, us0, k1, k2, _⟩ := hx 0 (by omega)
  rw [h1] at k1
  cases k1
  rw [hz] at h2 k2
  obtain ⟨_, l2, l3⟩ := World.cells?_some h2
  obtain ⟨_, m2, m3⟩ := World.cells?_some k2
  have hblk := World.cells?_block h2 hz0
  obtain ⟨b, o, s⟩ := q
  have hs : s = none := by
    have h0 := m3 0 hz0
    rw [List.getElem?_eq_getElem (by omega), Nat.zero_mul] at h0
    cases s with
    | none => rfl
    | some r =>
      exfalso
      have e0 : ((⟨b, o, some r⟩ : Addr).add 0).add 0 = ⟨b, o, some r⟩ := by simp [Addr.add]
      rw [e0] at h0
      unfold World.cell? at h0
      split at h0
      · simp at h0
      · cases h0
  subst hs
  rw [add_block] at hblk
  refine ⟨b, o, us, h1, hblk, l2, fun j u hj => ?_, by omega, h3⟩
  have hj' := (List.getElem?_eq_some_iff.1 hj).1
  have := l3 j (by omega)
  rw [hj, Addr.add_lit, Addr.add_lit] at this
  exact this
end Go.Proofs.YtkicpmdojmnmeaaGreatDoor
