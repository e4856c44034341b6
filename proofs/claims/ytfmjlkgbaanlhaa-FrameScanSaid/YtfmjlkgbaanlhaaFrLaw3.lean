/-
  The walk of the law FrameScan.
-/
import Derived.Test.YtfmjlkgbaanlhaaFrScan
namespace Go.Proofs.Ytfmjlkgbaanlhaa
open Go.RowKit
set_option linter.unusedVariables false
set_option linter.unusedSimpArgs false

set_option maxHeartbeats 400000 in
theorem frameScan_walk (A : Option Addr) (n c : Nat) (bs : List UInt8) (w : World) (h : Bytes w w.heap.size A n bs) (hn : n ≤ 9223372036854775807) (hc : n ≤ c) :
    Calls Try.prog 7 #[.slice A n c] w fun e w' => e = .returned (.bool true) ∧ Below w.heap.size w w' := by
  by_cases h5 : (20000 : Int) < (n : Int)
  · go_enter Try.func7, Try.ntmps7
    go_wp2_with fail
    refine (works_true w).mono ?_
    rintro e w1 ⟨rfl, hb⟩
    go_wp2_with fail
    go_ret
    exact ⟨rfl, hb⟩
  · go_enter Try.func7, Try.ntmps7
    go_wp2_with fail
    refine (Scan_any A n c bs w h (by omega) hc).mono ?_
    rintro e w1 ⟨A1, c1, l1, a1, rfl, hs1, hc1, hl1, hb1⟩
    go_wp2_with fail
    refine (refScan_any A n c bs w1 ((h.below hb1).more hb1.size) (by omega) hc).mono ?_
    rintro e w2 ⟨A2, c2, l2, a2, rfl, hs2, hc2, hl2, hb2⟩
    obtain ⟨rfl, rfl⟩ := hs1.unique hs2
    have hbw : Below w.heap.size w w2 := hb1.trans (hb2.mono hb1.size)
    have hlen : l1.length ≤ 20000 := by
      obtain ⟨⟨k, hk⟩, _⟩ := hs1
      have := steps_le bs k l1 a1 hk
      have := h.len
      omega
    clear hs1 hs2
    go_wp2_with fail
    refine (lists_any A1 A2 _ _ _ _ w2.heap.size l1 l1 w2 ((hl1.below hb2).more hb2.size) hl2 (by omega) (by omega)).mono ?_
    rw [show decide (l1 = l1) = true from by simp]
    rintro e w3 ⟨rfl, m3, rfl⟩
    go_wp2_with fail
    refine (works_true _).mono ?_
    rintro e w4 ⟨rfl, hb4⟩
    go_wp2_with fail
    go_ret
    exact ⟨rfl, (below_drewN hbw m3).trans (hb4.mono hbw.size)⟩
end Go.Proofs.Ytfmjlkgbaanlhaa
