/-
  The walk of the law FrameAppend. Conditions: at most 2^46 bytes, and a body of at most 2^20 bytes.
-/
import Derived.Test.YtfmjlkgbaanlhaaFrRefApp
import Derived.Test.YtfmjlkgbaanlhaaFrLaw2
namespace Go.Proofs.Ytfmjlkgbaanlhaa
open Go.RowKit
set_option linter.unusedVariables false
set_option linter.unusedSimpArgs false

theorem Bytes.pre {w : World} {B n : Nat} {A : Option Addr} {bs : List UInt8} (h : Bytes w B A n bs) (k : Nat) (hk : k ≤ n) : Bytes w B A k (bs.take k) :=
  ⟨by simp [h.len]; omega, fun hp => by
    obtain ⟨b, off, e, hb, hc⟩ := h.at_ (by omega)
    refine ⟨b, off, e, hb, fun j hj => ?_⟩
    have hl : j < bs.length := by simp at hj; omega
    rw [hc j hl]; simp⟩

theorem len_same (x : Int) : ((if x < 0 ∨ 1048576 < x then (0 : Int) else x + 8) == (if x < 0 ∨ 1048576 < x then 0 else x + 8)) = true := by simp
set_option maxHeartbeats 1000000 in
theorem frameAppend_walk (A A2 : Option Addr) (n c m c2 : Nat) (bs bs2 : List UInt8) (cut x : Int) (w : World) (hby : Bytes w w.heap.size A n bs) (h2 : Bytes w w.heap.size A2 m bs2) (hn : n ≤ 70368744177664) (hm : m ≤ 1048576) (hc : n ≤ c)
    (hx0 : x ≤ 9223372036854775807) (hx1 : -9223372036854775808 ≤ x) :
    Calls Try.prog 4 #[.slice A n c, .slice A2 m c2, .int .i64 cut, .int .i64 x] w fun e w' => e = .returned (.bool true) ∧ Below w.heap.size w w' := by
  obtain ⟨y, L1, L2⟩ : ∃ y : Int, (∀ w, Calls Try.prog 15 #[.int .i64 x] w fun e w' => e = .returned (.int .i64 y) ∧ w = w') ∧ (∀ w, Calls Try.prog 16 #[.int .i64 x] w fun e w' => e = .returned (.int .i64 y) ∧ w = w') :=
    ⟨_, fun w => Len_any x w hx0 hx1, fun w => refLen_any x w hx0 hx1⟩
  replace L1 := Lib.hid L1
  replace L2 := Lib.hid L2
  have hls : (y == y) = true := by simp
  have hcv := convert_bytes A n c w.heap.size bs w hby
  have HC := Lib.hid (fun w' (hb : Below w.heap.size w w') => convert_bytes A n c w.heap.size bs w' (hby.below hb))
  go_enter Try.func4, Try.ntmps4
  go_wp2_with fail
  all_goals
    refine (Append_any A A2 _ c m c2 (bs.take _) bs2 w (hby.pre _ (by omega)) h2 (by omega) hm).mono ?_
    rintro e w1 ⟨rfl, hb1, hB1⟩
    clear hcv
    go_wp2_with fail
    refine (refAppend_any A A2 _ c m c2 (bs.take _) bs2 w1 (((hby.pre _ (by omega)).below hB1).more hB1.size) ((h2.below hB1).more hB1.size) (by omega) hm).mono ?_
    rintro e w2 ⟨A3, c3, rfl, hx3, hc3, hB3⟩
    have hbw : Below w.heap.size w w2 := hB1.trans (hB3.mono hB1.size)
    have hx1 := (hb1.bytes (B := w1.heap.size) hb1.lt).below hB3
    have hlen := hx3.len
    rw [hlen] at hx1
    have hcv := HC.out w2 hbw
    clear hb1 hB1 hB3 hc3 hlen
    go_wp2_with fail
    refine (equal_any _ _ _ _ _ _ w1.heap.size w2.heap.size _ _ w2 hx1 hx3).mono ?_
    rw [beq_self_eq_true]
    rintro e w3 ⟨rfl, rfl⟩
    clear hx1 hx3
    go_wp2_with fail
    refine (L1.out w2).mono ?_
    rintro e w3 ⟨rfl, rfl⟩
    go_wp2_with fail
    refine (L2.out w2).mono ?_
    rintro e w3 ⟨rfl, rfl⟩
    go_wp2_with fail
    refine (works_true w2).mono ?_
    rintro e w4 ⟨rfl, hb4⟩
    go_wp2_with fail
    go_ret
    exact ⟨rfl, hbw.trans (hb4.mono hbw.size)⟩
end Go.Proofs.Ytfmjlkgbaanlhaa
