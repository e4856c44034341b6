/-
  What an operation's cells are; the methods of a transaction that has ended, over them.
-/
import Derived.Test.YtkicpmdojmnmeaaGreatDoorTxO
import Derived.Test.YtkicpmdojmnmeaaGreatDoorTcInsert
import Derived.Test.YtkicpmdojmnmeaaGreatDoorTcDelete
import Derived.Test.YtkicpmdojmnmeaaGreatDoorTcUpdate
import Derived.Test.YtkicpmdojmnmeaaGreatDoorTcCreate
set_option linter.unusedVariables false
set_option linter.unusedSimpArgs false
namespace Go.Proofs.YtkicpmdojmnmeaaGreatDoor
open Go.RowKit Go.Proofs.YtkicpmdojmnmeaaGreatDoor.Ps
theorem cells_op : Tryz.prog.cellsOf 44 = 34 := by kernel_rfl
theorem cells_rows : Tryz.prog.cellsOf 22 = 1 := by kernel_rfl
theorem cells_per : Tryz.prog.cellsOf 29 = 2 := by kernel_rfl
theorem rp_per {w : World} {cs : List Value} {c : C} (h : Rp Tryz.prog w 29 cs c) : ∃ a b, cs = [.int .i64 a, .int .i64 b] := by
  obtain ⟨ys, rfl, hn, hl, hx⟩ := h.struct_inv Tryz.underlying29
  obtain ⟨a0, a1, rfl⟩ := len2 (hn.trans cells_per)
  have h0 := hx 0 (by decide) (by rw [hl]; decide)
  have h1 := hx 1 (by decide) (by rw [hl]; decide)
  simp [cells_int] at h0 h1
  obtain ⟨a, e0, _⟩ := h0.int_inv Tryz.underlying3
  obtain ⟨b, e1, _⟩ := h1.int_inv Tryz.underlying3
  cases e0
  cases e1
  exact ⟨_, _, rfl⟩
theorem rp_op {w : World} {env : Nat → Value} {c : C} (h : Rp Tryz.prog w 44 ((List.range 34).map env) c) (hs : Sm c) : ∃ s a2 n2 m2 x2 c3 a10 n10 m10 x10 p1 p2 c6,
    env 1 = .string s ∧ env 2 = .slice a2 n2 m2 ∧ Rp Tryz.prog w 22 [.slice a2 n2 m2] (.s x2) ∧ Sm (.s x2) ∧ Rp Tryz.prog w 27 [env 3, env 4, env 5, env 6, env 7, env 8, env 9] c3 ∧ Sm c3 ∧ env 10 = .slice a10 n10 m10 ∧ Rp Tryz.prog w 25 [.slice a10 n10 m10] (.s x10) ∧ Sm (.s x10) ∧ env 11 = .int .i64 p1 ∧ env 12 = .int .i64 p2 ∧ Rp Tryz.prog w 34 [env 13, env 14, env 15, env 16, env 17] c6 ∧ Sm c6 := by
  rw [show (List.range 34).map env = [env 0, env 1, env 2, env 3, env 4, env 5, env 6, env 7, env 8, env 9, env 10, env 11, env 12, env 13, env 14, env 15, env 16, env 17, env 18, env 19, env 20, env 21, env 22, env 23, env 24, env 25, env 26, env 27, env 28, env 29, env 30, env 31, env 32, env 33] from rfl] at h
  obtain ⟨ys, rfl, hn, hl, hx⟩ := h.struct_inv Tryz.underlying44
  have h1 := hx 1 (by decide) (by rw [hl]; decide)
  have h2 := hx 2 (by decide) (by rw [hl]; decide)
  have h3 := hx 3 (by decide) (by rw [hl]; decide)
  have h4 := hx 4 (by decide) (by rw [hl]; decide)
  have h5 := hx 5 (by decide) (by rw [hl]; decide)
  have h6 := hx 6 (by decide) (by rw [hl]; decide)
  simp [cells_int, cells_str, cells_val, cells_exprs, cells_rows, cells_per, cells_expr, cells_table] at h1 h2 h3 h4 h5 h6
  obtain ⟨s, e1, _⟩ := h1.string_inv Tryz.underlying9
  obtain ⟨a2, n2, m2, x2, e2, f2, _⟩ := h2.slice_inv Tryz.underlying22
  obtain ⟨a4, n4, m4, x4, e4, f4, _⟩ := h4.slice_inv Tryz.underlying25
  obtain ⟨p1, p2, e5⟩ := rp_per h5
  have sm : ∀ i (hi : i < ys.length), Sm ys[i] := fun _ _ => trivial
  injection e1 with e1
  injection e2 with e2
  injection e4 with e4
  injection e5 with e5 e6
  injection e6 with e6
  have s2 := sm 2 (by rw [hl]; decide)
  have s4 := sm 4 (by rw [hl]; decide)
  rw [e2, f2] at h2
  rw [f2] at s2
  rw [e4, f4] at h4
  rw [f4] at s4
  exact ⟨s, a2, n2, m2, x2, _, a4, n4, m4, x4, p1, p2, _, e1, e2, h2, s2, h3, sm 3 (by rw [hl]; decide), e4, h4, s4, e5, e6, h6, sm 6 (by rw [hl]; decide)⟩
end Go.Proofs.YtkicpmdojmnmeaaGreatDoor
namespace Go.Proofs.YtkicpmdojmnmeaaGreatDoor.Ax
open Go Go.RowKit Go.Proofs.YtkicpmdojmnmeaaGreatDoor.Ps
theorem env_op {K : Nat → Option Obj} {env : Nat → Value} {w : World} (he : EnvP K env) (hk : ∀ q o, K q = some o → w.heap[q]? = some o) : ∃ c, Rp Tryz.prog w 44 ((List.range 34).map env) c ∧ Sm c := by
  obtain ⟨wX, c, h1, h2, h0, h3⟩ := he
  exact ⟨c, h1.keptH fun q o hq => hk q o (h3 q o hq), h2⟩
theorem insert_law : EndLaw Tryz.prog 15 [.opq 1, .opq 2, .agg [.opq 11, .opq 12]] (.tuple #[.int .i64 0, .int .i64 20]) := by
  intro K env w t he hk ht
  obtain ⟨c, h, hs⟩ := env_op he hk
  obtain ⟨s, a2, n2, m2, x2, c3, a10, n10, m10, x10, p1, p2, c6, e1, e2, h2, s2, h3, s3, e10, h10, s10, e11, e12, h6, s6⟩ := rp_op h hs
  simp only [List.map_cons, List.map_nil, valA, valO, e1, e2, e11, e12]
  exact insert_call ht h2 s2
theorem delete_law : EndLaw Tryz.prog 16 [.opq 1, .agg [.opq 3, .opq 4, .opq 5, .opq 6, .opq 7, .opq 8, .opq 9], .agg [.opq 11, .opq 12]] (.tuple #[.int .i64 0, .int .i64 20]) := by
  intro K env w t he hk ht
  obtain ⟨c, h, hs⟩ := env_op he hk
  obtain ⟨s, a2, n2, m2, x2, c3, a10, n10, m10, x10, p1, p2, c6, e1, e2, h2, s2, h3, s3, e10, h10, s10, e11, e12, h6, s6⟩ := rp_op h hs
  simp only [List.map_cons, List.map_nil, valA, valO, e1, e11, e12]
  exact delete_call ht h3 s3
theorem update_law : EndLaw Tryz.prog 17 [.opq 1, .agg [.opq 3, .opq 4, .opq 5, .opq 6, .opq 7, .opq 8, .opq 9], .opq 10, .agg [.opq 11, .opq 12]] (.tuple #[.int .i64 0, .int .i64 20]) := by
  intro K env w t he hk ht
  obtain ⟨c, h, hs⟩ := env_op he hk
  obtain ⟨s, a2, n2, m2, x2, c3, a10, n10, m10, x10, p1, p2, c6, e1, e2, h2, s2, h3, s3, e10, h10, s10, e11, e12, h6, s6⟩ := rp_op h hs
  simp only [List.map_cons, List.map_nil, valA, valO, e1, e10, e11, e12]
  exact update_call ht h3 s3 h10 s10
theorem create_law : EndLaw Tryz.prog 18 [.agg [.opq 13, .opq 14, .opq 15, .opq 16, .opq 17]] (.int .i64 20) := by
  intro K env w t he hk ht
  obtain ⟨c, h, hs⟩ := env_op he hk
  obtain ⟨s, a2, n2, m2, x2, c3, a10, n10, m10, x10, p1, p2, c6, e1, e2, h2, s2, h3, s3, e10, h10, s10, e11, e12, h6, s6⟩ := rp_op h hs
  simp only [List.map_cons, List.map_nil, valA, valO]
  exact create_call ht h6 s6
def two : Value := .tuple #[.int .i64 0, .int .i64 20]
/-- the four methods that copy what they are handed -/
def insO : CallR := endO 15 [.opq 1, .opq 2, .agg [.opq 11, .opq 12]] (.lit two)
def delO : CallR := endO 16 [.opq 1, .agg [.opq 3, .opq 4, .opq 5, .opq 6, .opq 7, .opq 8, .opq 9], .agg [.opq 11, .opq 12]] (.lit two)
def updO : CallR := endO 17 [.opq 1, .agg [.opq 3, .opq 4, .opq 5, .opq 6, .opq 7, .opq 8, .opq 9], .opq 10, .agg [.opq 11, .opq 12]] (.lit two)
def creO : CallR := endO 18 [.agg [.opq 13, .opq 14, .opq 15, .opq 16, .opq 17]] (.lit (.int .i64 20))
theorem insO_ok : CallOK Tryz.prog insO := endO_ok rfl ⟨Tryz.f15, _, Tryz.func15, by decide +kernel, rfl⟩ insert_law
theorem delO_ok : CallOK Tryz.prog delO := endO_ok rfl ⟨Tryz.f16, _, Tryz.func16, by decide +kernel, rfl⟩ delete_law
theorem updO_ok : CallOK Tryz.prog updO := endO_ok rfl ⟨Tryz.f17, _, Tryz.func17, by decide +kernel, rfl⟩ update_law
theorem creO_ok : CallOK Tryz.prog creO := endO_ok rfl ⟨Tryz.f18, _, Tryz.func18, by decide +kernel, rfl⟩ create_law
end Go.Proofs.YtkicpmdojmnmeaaGreatDoor.Ax
