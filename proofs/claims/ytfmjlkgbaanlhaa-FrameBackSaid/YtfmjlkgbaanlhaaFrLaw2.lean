/-
  The walk of the law FrameNext.
-/
import Derived.Test.YtfmjlkgbaanlhaaFrRef
namespace Go.Proofs.Ytfmjlkgbaanlhaa
open Go.RowKit
set_option linter.unusedVariables false
set_option linter.unusedSimpArgs false

theorem refNext_any (A : Option Addr) (n c : Nat) (bs : List UInt8) (at_ : Int) (w : World) (h : Bytes w w.heap.size A n bs) (hn : n ≤ 9223372036854775807) (hc : n ≤ c) (h63 : at_ ≤ 9223372036854775807) (h64 : -9223372036854775808 ≤ at_) :
    Calls Try.prog 18 #[.slice A n c, .int .i64 at_] w (NextPost w (nextF bs at_)) := by
  by_cases ha : at_ < 0 ∨ (n : Int) < at_
  · exact refNext_range A n c bs at_ w h hn ha h63 h64
  · obtain ⟨k, rfl⟩ := Int.eq_ofNat_of_zero_le (a := at_) (by omega)
    by_cases h8 : n < k + 8
    · exact refNext_short A n c k bs w h hn (by omega) h8 hc
    · obtain ⟨b, off, rfl, _⟩ := h.at_ (by omega)
      obtain ⟨p, rfl⟩ : ∃ p, n = k + p := ⟨n - k, by omega⟩
      obtain ⟨q, rfl⟩ : ∃ q, c = k + q := ⟨c - k, by omega⟩
      exact refNext_rest b off p q k bs w h hn (by omega) (by omega)

set_option maxHeartbeats 400000 in
theorem frameNext_walk (A : Option Addr) (n c : Nat) (bs : List UInt8) (at_ : Int) (w : World) (h : Bytes w w.heap.size A n bs) (hn : n ≤ 9223372036854775807) (hc : n ≤ c) (h63 : at_ ≤ 9223372036854775807) (h64 : -9223372036854775808 ≤ at_) :
    Calls Try.prog 5 #[.slice A n c, .int .i64 at_] w fun e w' => e = .returned (.bool true) ∧ Below w.heap.size w w' := by
  have c1 := Lib.hid (Next_any A n c bs at_ w h hn hc h63 h64)
  have c2 := Lib.hid (fun w1 (hb : Below w.heap.size w w1) => refNext_any A n c bs at_ w1 ((h.below hb).more hb.size) hn hc h63 h64)
  generalize nextF bs at_ = r at *
  obtain ⟨body, nx, er⟩ := r
  go_enter Try.func5, Try.ntmps5
  go_wp2_with fail
  refine c1.out.mono ?_
  rintro e w1 ⟨A1, k1, rfl, hx1, hk1, hb1, hfr1⟩
  clear hfr1
  go_wp2_with fail
  refine (c2.out w1 hb1).mono ?_
  rintro e w2 ⟨A2, k2, rfl, hx2, hk2, hb2, hfr2⟩
  clear hfr2
  have hbw : Below w.heap.size w w2 := hb1.trans (hb2.mono hb1.size)
  have heq : (body == body) = true := by simp
  go_wp2_with fail
  refine (equal_any _ _ _ _ _ _ w1.heap.size w2.heap.size _ _ w2 (hx1.below hb2) hx2).mono ?_
  rw [heq]
  rintro e w3 ⟨rfl, rfl⟩
  go_wp2_with fail
  refine (works_true w2).mono ?_
  rintro e w4 ⟨rfl, hb4⟩
  go_wp2_with fail
  go_ret
  exact ⟨rfl, hbw.trans (hb4.mono hbw.size)⟩
end Go.Proofs.Ytfmjlkgbaanlhaa
