/-
  Expressions in memory: a tree that is an expression; its cells, its operands' cells.
-/
import Derived.Test.YtlimlmjljjmcpaaGreatDoorPsA
import Derived.Test.YtlimlmjljjmcpaaGreatDoorPxP
namespace Go.Proofs.YtlimlmjljjmcpaaGreatDoor.Px
open Go Go.RowKit Go.Proofs.YtlimlmjljjmcpaaGreatDoor.Ps
set_option linter.unusedVariables false
set_option linter.unusedSimpArgs false
def strV (s : S) : Value := .string ⟨s.toArray⟩
mutual
def toC : X → C
  | .mk op int vk vi vs nm l => .a [.l (.int .i64 op), .l (.int .i64 int), .a [.l (.int .i64 vk), .l (.int .i64 vi), .l (strV vs)], .l (strV nm), .s (toCs l)]
def toCs : List X → List C
  | [] => []
  | x :: l => toC x :: toCs l
end
theorem toCs_map : ∀ l : List X, toCs l = l.map toC
  | [] => rfl
  | x :: l => by rw [toCs, List.map_cons, toCs_map l]
/-- an expression's cells -/
def XR (w : World) (x : X) (cs : List Value) : Prop := Rp Tryz.prog w 26 cs (toC x)
/-- a list of expressions -/
def XL (w : World) (l : List X) (v : Value) : Prop := Rp Tryz.prog w 24 [v] (.s (toCs l))
theorem str_list (s : ByteArray) : (.string s : Value) = strV s.data.toList := by
  unfold strV
  cases s
  simp
theorem x_of : ∀ (N : Nat) (w : World) (cs : List Value) (c : C), SizeOf.sizeOf c ≤ N → Rp Tryz.prog w 26 cs c → ∃ x, c = toC x
  | 0, w, cs, c, hc, _ => by cases c <;> simp at hc
  | N + 1, w, cs, c, hc, h => by
    obtain ⟨op, int, k0, k1, k2, nm, q, n, m, xs, rfl, rfl, _, _, hl, hr⟩ := shp_Expr h
    have each : ∀ i, ∃ x : X, ∀ hi : i < xs.length, xs[i] = toC x := fun i => by
      by_cases hi : i < xs.length
      · obtain ⟨_, _, _, ys, e1, e2, _, _, _, hx⟩ := hr.slice_inv Tryz.underlying24
        cases e2
        obtain ⟨_, us, _, _, hu⟩ := hx i hi
        obtain ⟨x, hx⟩ := x_of N w us xs[i] (by
          have := List.sizeOf_lt_of_mem (List.getElem_mem hi)
          simp at hc
          omega) hu
        exact ⟨x, fun _ => hx⟩
      · exact ⟨.mk 0 0 0 0 [] [] [], fun hh => absurd hh hi⟩
    let f := fun i => Classical.choose (each i)
    refine ⟨.mk op int k0 k1 k2.data.toList nm.data.toList ((List.range xs.length).map f), ?_⟩
    have hxs : toCs ((List.range xs.length).map f) = xs := by
      rw [toCs_map]
      refine List.ext_getElem (by simp) fun i h1 h2 => ?_
      simp only [List.getElem_map, List.getElem_range]
      exact (Classical.choose_spec (each i) h2).symm
    rw [toC, ← str_list, ← str_list, hxs]
theorem XR.cells {w : World} {op int vk vi : Int} {vs nm : S} {l : List X} {cs : List Value} (h : XR w (.mk op int vk vi vs nm l) cs) : ∃ a m, cs = [.int .i64 op, .int .i64 int, .int .i64 vk, .int .i64 vi, strV vs, strV nm, .slice a l.length m] ∧ XL w l (.slice a l.length m) ∧ vs.length ≤ maxLen ∧ nm.length ≤ maxLen := by
  unfold XR at h
  rw [toC] at h
  obtain ⟨op', int', k0, k1, k2, nm', q, n, m, xs, rfl, e, hs2, hs3, hl, hr⟩ := shp_Expr h
  injection e with e
  injection e with e0 e
  injection e with e1 e
  injection e with e2 e
  injection e with e3 e
  injection e with e4 _
  injection e0 with e0
  injection e0 with _ e0
  injection e1 with e1
  injection e1 with _ e1
  injection e2 with e2
  injection e2 with e20 e2
  injection e2 with e21 e2
  injection e2 with e22 _
  injection e20 with e20
  injection e20 with _ e20
  injection e21 with e21
  injection e21 with _ e21
  injection e22 with e22
  injection e3 with e3
  injection e4 with e4
  subst e0 e1 e20 e21
  have hn : n = l.length := by
    rw [← hl, ← e4, toCs_map]
    simp
  subst hn
  have j2 : k2 = ⟨vs.toArray⟩ := by unfold strV at e22; injection e22 with e22; exact e22.symm
  have j3 : nm' = ⟨nm.toArray⟩ := by unfold strV at e3; injection e3 with e3; exact e3.symm
  subst j2 j3
  refine ⟨q, m, rfl, ?_, by simpa [ByteArray.size] using hs2, by simpa [ByteArray.size] using hs3⟩
  unfold XL
  rw [e4]
  exact hr
theorem XR.kept {n : Nat} {w w' : World} {x : X} {cs : List Value} (h : XR w x cs) (hb : Below n w w') (hn : w.heap.size ≤ n) : XR w' x cs := Rp.kept hb hn h
theorem XL.kept {n : Nat} {w w' : World} {l : List X} {v : Value} (h : XL w l v) (hb : Below n w w') (hn : w.heap.size ≤ n) : XL w' l v := Rp.kept hb hn h
/-- where an element of a slice lies -/
theorem elem_at {w : World} {t e : TypeId} {a : Option Addr} {n m k z : Nat} {xs : List C} (hu : Tryz.prog.underlying t = some (.slice e)) (hz : Tryz.prog.cellsOf e = z) (hz0 : 0 < z) (h : Rp Tryz.prog w t [.slice a n m] (.s xs)) (hk : k < n) :
    ∃ b o us, a = some ⟨b, o, none⟩ ∧ b < w.heap.size ∧ us.length = z ∧ (∀ j u, us[j]? = some u → w.cell? ⟨b, o + k * z + j, none⟩ = some u) ∧ ∃ hx : k < xs.length, Rp Tryz.prog w e us xs[k] := by
  obtain ⟨a', n', m', xs', e1, e2, e3, _, _, hx⟩ := h.slice_inv hu
  cases e1
  cases e2
  obtain ⟨q, us, h1, h2, h3⟩ := hx k (by omega)
  obtain ⟨q0, us0, k1, k2, _⟩ := hx 0 (by omega)
  rw [h1] at k1
  cases k1
  rw [hz] at h2 k2
  obtain ⟨_, l2, l3⟩ := World.cells?_some h2
  obtain ⟨_, m2, m3⟩ := World.cells?_some k2
  have hblk := World.cells?_block h2 hz0
  obtain ⟨b, o, s⟩ := q
  have hs : s = none := by
    have h0 := m3 0 hz0
    rw [List.getElem?_eq_getElem (by omega), Nat.zero_mul] at h0
    cases s with
    | none => rfl
    | some r =>
      exfalso
      have e0 : ((⟨b, o, some r⟩ : Addr).add 0).add 0 = ⟨b, o, some r⟩ := by simp [Addr.add]
      rw [e0] at h0
      unfold World.cell? at h0
      split at h0
      · simp at h0
      · cases h0
  subst hs
  rw [add_block] at hblk
  refine ⟨b, o, us, h1, hblk, l2, fun j u hj => ?_, by omega, h3⟩
  have hj' := (List.getElem?_eq_some_iff.1 hj).1
  have := l3 j (by omega)
  rw [hj, Addr.add_lit, Addr.add_lit] at this
  exact this
theorem XL.at_ {w : World} {l : List X} {a : Option Addr} {n m k : Nat} (h : XL w l (.slice a n m)) (hk : k < n) : ∃ b o us, a = some ⟨b, o, none⟩ ∧ b < w.heap.size ∧ (∀ j u, us[j]? = some u → w.cell? ⟨b, o + k * 7 + j, none⟩ = some u) ∧ ∃ hx : k < l.length, XR w l[k] us := by
  obtain ⟨b, o, us, h1, h2, _, h4, hx, h5⟩ := elem_at Tryz.underlying24 zc_Expr (by omega) h hk
  have hx' : k < l.length := by rw [toCs_map] at hx; simpa using hx
  refine ⟨b, o, us, h1, h2, h4, hx', ?_⟩
  unfold XR
  have : (toCs l)[k] = toC l[k] := by simp [toCs_map]
  rw [← this]
  exact h5
end Go.Proofs.YtlimlmjljjmcpaaGreatDoor.Px
