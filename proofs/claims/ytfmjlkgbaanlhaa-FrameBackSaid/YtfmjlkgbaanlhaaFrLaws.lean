/-
  The walks of the laws FrameSum and FrameNext; what a slice of bytes that came in reads as.
-/
import Derived.Test.YtfmjlkgbaanlhaaFrWorks
namespace Go.Proofs.Ytfmjlkgbaanlhaa
open Go.RowKit
set_option linter.unusedVariables false
set_option linter.unusedSimpArgs false

/-- a slice of integers that came in: nil, or a row of 'cap' cells that hold the numbers 'zs' -/
def IsRow (k : IntKind) (w : World) (a : Option Addr) (len cap : Nat) (zs : List Int) : Prop :=
  (a = none ∧ len = 0 ∧ cap = 0 ∧ zs = []) ∨
  ∃ x, a = some x ∧ len ≤ cap ∧ cap ≤ maxLen ∧ zs.length = cap ∧ (∀ i, i < zs.length → w.cell? (x.add i) = some (.int k (zs.getD i 0))) ∧ ∀ n ∈ zs, (Lit.int k n).wf = true
def toB (zs : List Int) : List UInt8 := zs.map fun z => UInt8.ofNat z.toNat
theorem int_bounds {x : Int} (h : (Lit.int .i64 x).wf = true) : -9223372036854775808 ≤ x ∧ x ≤ 9223372036854775807 := by
  simpa [Lit.wf, IntKind.min, IntKind.max, IntKind.signed, IntKind.bits] using h
theorem block_lt {w : World} {a : Addr} {v : Value} (h : w.cell? a = some v) : a.block < w.heap.size := by
  rcases Nat.lt_or_ge a.block w.heap.size with h' | h'
  · exact h'
  · simp [World.cell?, Array.getElem?_eq_none h'] at h
theorem IsRow.bytes {w : World} {a : Option Addr} {len cap : Nat} {zs : List Int} (h : IsRow .u8 w a len cap zs) : Bytes w w.heap.size a len (toB (zs.take len)) ∧ len ≤ cap ∧ cap ≤ 9223372036854775807 := by
  rcases h with ⟨rfl, rfl, rfl, rfl⟩ | ⟨x, rfl, hl, hm, hz, hc, hw⟩
  · exact ⟨Bytes.nil _ _ _, Nat.le_refl _, by omega⟩
  · refine ⟨⟨by simp [toB]; omega, fun hp => ?_⟩, hl, by simpa [maxLen] using hm⟩
    obtain ⟨b, off, spot⟩ := x
    have h0 := hc 0 (by omega)
    have hs : spot = none := by simpa [Addr.add] using World.cell?_spot h0
    subst hs
    refine ⟨b, off, rfl, block_lt (a := ⟨b, off, none⟩) (by simpa [Addr.add] using h0), fun j hj => ?_⟩
    have hjz : j < zs.length := by simp [toB] at hj; omega
    have hj' := hc j hjz
    rw [show (Addr.add ⟨b, off, none⟩ j) = ⟨b, off + j, none⟩ from by simp [Addr.add]] at hj'
    rw [hj']
    have hwz := hw zs[j] (List.getElem_mem hjz)
    have hbd : 0 ≤ zs[j] ∧ zs[j] ≤ 255 := by simpa [Lit.wf, IntKind.min, IntKind.max, IntKind.signed, IntKind.bits] using hwz
    simp [toB, hjz]
    omega

set_option maxHeartbeats 400000 in
theorem equal_any (A A2 : Option Addr) (n c n2 c2 B B2 : Nat) (bs bs2 : List UInt8) (w : World) (h : Bytes w B A n bs) (h2 : Bytes w B2 A2 n2 bs2) :
    Calls Try.prog 14 #[.slice A n c, .slice A2 n2 c2] w fun e w' => e = .returned (.bool (bs == bs2)) ∧ w = w' := by
  have h1 := convert_bytes A n c B bs w h
  have h2 := convert_bytes A2 n2 c2 B2 bs2 w h2
  go_enter Try.func14, Try.ntmps14
  go_wp2_with fail
  go_ret
  exact ⟨rfl, rfl⟩

set_option maxHeartbeats 400000 in
theorem frameSum_walk (A : Option Addr) (n c : Nat) (bs : List UInt8) (w : World) (h : Bytes w w.heap.size A n bs) (hn : n ≤ 9223372036854775807) :
    Calls Try.prog 3 #[.slice A n c] w fun e w' => e = .returned (.bool true) ∧ Below w.heap.size w w' := by
  by_cases h5 : (5000 : Int) < (n : Int)
  · have h5' : decide ((5000 : Int) < (n : Int)) = true := by simpa using h5
    go_enter Try.func3, Try.ntmps3
    go_wp2_with fail
    refine (works_true w).mono ?_
    rintro e w1 ⟨rfl, hb⟩
    go_wp2_with fail
    go_ret
    exact ⟨rfl, hb⟩
  · have h5' : decide ((5000 : Int) < (n : Int)) = false := by simpa using h5
    go_enter Try.func3, Try.ntmps3
    go_wp2_with fail
    refine (Sum_any _ _ _ _ _ w h hn).mono ?_
    rintro e w1 ⟨rfl, rfl⟩
    go_wp2_with fail
    refine (refSum_any _ _ _ _ _ w h hn).mono ?_
    rintro e w1 ⟨rfl, rfl⟩
    go_wp2_with fail
    refine (works_true w).mono ?_
    rintro e w1 ⟨rfl, hb⟩
    go_wp2_with fail
    go_ret
    exact ⟨rfl, hb⟩
end Go.Proofs.Ytfmjlkgbaanlhaa
