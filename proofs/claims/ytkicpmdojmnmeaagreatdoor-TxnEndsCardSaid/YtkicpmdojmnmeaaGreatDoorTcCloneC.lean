/-
  slices.Clone at []api.Column: some slice; the old memory stays as it was.
-/
import Derived.Test.YtkicpmdojmnmeaaGreatDoorTcBase
namespace Go.Proofs.YtkicpmdojmnmeaaGreatDoor
open Go.RowKit
set_option linter.unusedVariables false
set_option linter.unusedSimpArgs false
theorem infoC : (Tryz.prog.info? 36).map (fun i => (i.zero, i.size, i.bytes)) = some (some (.agg #[.string ByteArray.empty, .int .i64 0, .bool false]), 3, 32) := by kernel_rfl
set_option maxHeartbeats 2000000 in
set_option maxRecDepth 100000 in
theorem cloneC_some (q : Addr) (n c : Nat) (news : List Value) (w : World) (hl : news.length = n * 3) (hc : ∀ j u, news[j]? = some u → w.cell? (q.add j) = some u) (h1 : ∀ u ∈ news, u.oneCell' = true) (hn : n * 32 ≤ 140737488351232) (hq : 0 < news.length → q.block < w.heap.size) :
    Calls Tryz.prog 165 #[.slice (some q) n c] w fun e w' => ∃ v', e = .returned v' ∧ IsSl v' ∧ Below w.heap.size w w' := by
  obtain ⟨i0, hi, hz0, hz1, hz2⟩ := info_parts infoC
  have q1 : ∀ (w : World) (a : Option Addr) (n c n' c' : Nat), (binOp .eql 30 (.slice a n c) (.slice none n' c')).run Tryz.prog w = .ok (.bool a.isNone) w := fun w a n c n' c' => Lib.run_eql_slice_nil w _ _ a n c n' c' Tryz.underlying30
  have HC := Lib.hid hc
  have H1 := Lib.hid h1
  clear hc h1
  go_enter Tryz.func165, Tryz.ntmps165
  go_wp2_with (at_builtin; refine wpList_append_own _ rfl _ _ 30 rfl w.heap.size 36 i0 _ 3 32 Tryz.underlying30 hi hz0 hz1 hz2 rfl (by decide) _ _ _ rfl (World.ownsRow_made w #[] 0 (Nat.le_refl _) (Nat.zero_le _) rfl) q n c news rfl hl ?qc2 H1.out ?qc4 ?qc5 ?qc6 ?_)
  case qc2 =>
    intro j u hj
    rw [((Below.refl w.heap.size w).alloc (Nat.le_refl _) _).cell (by
      rw [Ps.add_block]
      refine hq ?_
      have := (List.getElem?_eq_some_iff.1 hj).1
      omega)]
    exact HC.out j u hj
  case qc4 => unfold maxLen; omega
  case qc5 => omega
  case qc6 => simp
  intro v' w1 hown hgrow hnil
  go_wp2
  go_ret
  refine ⟨v', rfl, ?_, ((Below.refl _ w).alloc (Nat.le_refl _) _).grown hgrow (by simp) (by intro k hk; simp [Value.ownBlock] at hk; omega)⟩
  rcases hown.2 with ⟨h0, _⟩ | ⟨g, cap, cur, hv, _⟩
  · exact ⟨_, _, _, h0⟩
  · exact ⟨_, _, _, hv⟩
set_option maxHeartbeats 1000000 in
theorem cloneC_none (n c : Nat) (w : World) : Calls Tryz.prog 165 #[.slice none n c] w fun e w' => ∃ v', e = .returned v' ∧ IsSl v' ∧ Below w.heap.size w w' := by
  have q1 : ∀ (w : World) (a : Option Addr) (n c n' c' : Nat), (binOp .eql 30 (.slice a n c) (.slice none n' c')).run Tryz.prog w = .ok (.bool a.isNone) w := fun w a n c n' c' => Lib.run_eql_slice_nil w _ _ a n c n' c' Tryz.underlying30
  go_enter Tryz.func165, Tryz.ntmps165
  go_wp2
  go_ret
  exact ⟨_, rfl, ⟨_, _, _, rfl⟩, Below.refl _ _⟩
/-- whatever the slice reads as -/
theorem cloneC_call {v : Value} {c : Ps.C} {w : World} (h : Ps.Rp Tryz.prog w 30 [v] c) : Calls Tryz.prog 165 #[v] w fun e w' => ∃ v', e = .returned v' ∧ IsSl v' ∧ Below w.heap.size w w' := by
  obtain ⟨a, n, m, rfl⟩ := Ps.Rp.isSl Tryz.underlying30 h
  cases a with
  | none => exact cloneC_none n m w
  | some q =>
    obtain ⟨news, k1, k2, k3, k4⟩ := Ps.Rp.news Tryz.underlying30 h
    exact cloneC_some q n m news w (k1.trans (by rw [show Tryz.prog.cellsOf 36 = 3 by kernel_rfl])) k2 k3 (by have := h.bound Tryz.underlying30; rw [show Tryz.prog.bytesOf 36 = 32 by kernel_rfl] at this; exact this) k4
end Go.Proofs.YtkicpmdojmnmeaaGreatDoor
