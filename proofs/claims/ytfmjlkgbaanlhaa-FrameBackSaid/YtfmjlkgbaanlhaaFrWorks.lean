/-
  The chapter's examples hold: 'works' returns true.
-/
import Derived.Test.YtfmjlkgbaanlhaaFrApp
import Derived.Lib.SlBytesConst
namespace Go.Proofs.Ytfmjlkgbaanlhaa
open Go.RowKit
set_option linter.unusedVariables false
set_option linter.unusedSimpArgs false

set_option maxHeartbeats 400000 in
theorem Len_any (x : Int) (w : World) (h63 : x ≤ 9223372036854775807) (h64 : -9223372036854775808 ≤ x) :
    Calls Try.prog 15 #[.int .i64 x] w fun e w' => e = .returned (.int .i64 (if x < 0 ∨ 1048576 < x then 0 else x + 8)) ∧ w = w' := by
  by_cases h0 : x < 0
  · rw [if_pos (.inl h0)]
    go_enter Try.func15, Try.ntmps15
    go_wp2_with fail
    go_ret
    exact ⟨rfl, rfl⟩
  · by_cases h1 : 1048576 < x
    · rw [if_pos (.inr h1)]
      go_enter Try.func15, Try.ntmps15
      go_wp2_with fail
      go_ret
      exact ⟨rfl, rfl⟩
    · rw [if_neg (by omega)]
      go_enter Try.func15, Try.ntmps15
      go_wp2_with fail
      go_ret
      exact ⟨rfl, rfl⟩

theorem sum_nine : sumF [49, 50, 51, 52, 53, 54, 55, 56, 57] = 3808858755 := by decide +kernel
theorem sum_none : sumF [] = 0 := by decide +kernel
theorem next_abc : nextF ([7] ++ frameF [97, 98, 99]) 1 = ([97, 98, 99], 12, 0) := by decide +kernel
theorem next_end : nextF ([7] ++ frameF [97, 98, 99] ++ [0, 0, 0]) 12 = ([], 0, 2) := by decide +kernel

theorem Bytes.lit (w : World) (bs : List UInt8) (fr : Nat × Nat) {n B : Nat} (hn : bs.length = n) (hB : w.heap.size < B) : Bytes (w.alloc (.cells (bv bs).toArray 5 fr)) B (some ⟨w.heap.size, 0, none⟩) n bs :=
  ⟨hn, fun _ => ⟨_, 0, rfl, hB, fun j hj => by rw [Nat.zero_add, World.cell?_alloc_mark]; simp [bv, hj]⟩⟩
theorem convert_const (w : World) (g n c : Nat) (C : Array Value) (hg : g = w.heap.size) : (convert 22 22 (.slice (some ⟨g, 0, none⟩) n c)).run Try.prog (w.alloc (.cells C 5)) =
    .ok (.slice (some ⟨g, 0, none⟩) n c) (w.alloc (.cells C 5 (C.size, C.size + 1))) := by
  subst hg
  exact Lib.run_convert_bytes_const (P := Try.prog) w 22 5 C n c Try.underlying22 Try.underlying5
/-- the world of the first two literals -/
def W2 (w : World) : World := (w.alloc (.cells (bv [7]).toArray 5)).alloc (.cells (bv [97, 98, 99]).toArray 5 (3, 4))
theorem W2_size (w : World) : (W2 w).heap.size = w.heap.size + 2 := by simp [W2]
theorem W2_seven (w : World) : Bytes (W2 w) (W2 w).heap.size (some ⟨w.heap.size, 0, none⟩) 1 [7] :=
  (((Bytes.lit w [7] (0, 0) (B := w.heap.size + 1) rfl (by omega)).alloc (by simp) _).more (by simp [W2]))
theorem W2_abc (w : World) : Bytes (W2 w) (W2 w).heap.size (some ⟨w.heap.size + 1, 0, none⟩) 3 [97, 98, 99] := by
  have h := Bytes.lit (w.alloc (.cells (bv [7]).toArray 5)) [97, 98, 99] (3, 4) (n := 3) (B := w.heap.size + 2) rfl (by simp)
  rw [W2_size]
  simpa [W2] using h
theorem W2_below (w : World) : Below w.heap.size w (W2 w) := ((Below.refl _ _).alloc (Nat.le_refl _) _).alloc (by simp) _

set_option maxHeartbeats 1000000 in
theorem works_true (w : World) : Calls Try.prog 11 #[] w fun e w' => e = .returned (.bool true) ∧ Below w.heap.size w w' := by
  have kc := convert_const
  go_enter Try.func11, Try.ntmps11
  go_wp2_with fail
  change Calls Try.prog 12 _ (W2 w) _
  have hs7 := W2_seven w
  have habc := W2_abc w
  have hbw := W2_below w
  have hsz := W2_size w
  generalize W2 w = w2 at *
  refine (Append_any _ _ 1 1 3 3 [7] [97, 98, 99] w2 hs7 habc (by omega) (by omega)).mono ?_
  rintro e w3 ⟨rfl, hb3, hB3⟩
  clear hs7 habc
  have hbw3 : Below w.heap.size w w3 := hbw.trans (hB3.mono hbw.size)
  have hx3 := hb3.bytes (B := w3.heap.size) hb3.lt
  generalize w2.heap.size = g at *
  clear hsz hbw hB3
  go_wp2_with fail
  refine (Next_any _ _ _ _ 1 w3 hx3 (by decide) (by decide) (by omega) (by omega)).mono ?_
  rw [next_abc]
  rintro e w4 ⟨A4, c4, rfl, hx4, hc4, hB4, hfr4⟩
  clear hfr4
  have hbw4 : Below w.heap.size w w4 := hbw3.trans (hB4.mono hbw3.size)
  have hx34 := hx3.below hB4
  clear hx3 hbw3 hb3
  have hsrc : Bytes (w4.alloc (.cells #[] 5)) w3.heap.size (some ⟨g, 0, none⟩) 12 ([7] ++ frameF [97, 98, 99]) := hx34.alloc hB4.size _
  have hown0 : Own (w4.alloc (.cells #[] 5)) w4.heap.size (.slice (some ⟨w4.heap.size, 0, none⟩) 0 0) 0 [] := Own.of_BB (BB.new w4 []) (Nat.le_refl _) rfl (by decide)
  have hbw5 : Below w4.heap.size w4 (w4.alloc (.cells #[] 5)) := (Below.refl _ _).alloc (Nat.le_refl _) _
  clear hx34
  have hl12 : nextF (([7] ++ frameF [97, 98, 99]) ++ [0, 0, 0]) 12 = ([], 0, 2) := next_end
  generalize [7] ++ frameF [97, 98, 99] = l12 at *
  have HL12 := Lib.hid hl12
  clear hl12
  go_wp2_with (at_builtin; refine wpList_append_bytes _ rfl (.tmp 23) (.tmp 24) rfl rfl w4.heap.size 0 _ [] rfl hown0 w3.heap.size _ 12 _ _ rfl hsrc (by omega) ?base ?_)
  case base => simp
  intro v5 w5 hown5 hg5 hat5
  replace hbw5 : Below w4.heap.size w4 w5 := hbw5.grown hg5 hbw5.size (by simp [Value.ownBlock])
  have hat5' : ∀ k, v5.ownBlock = some k → w4.heap.size ≤ k := fun k hk => (hown5.lt k hk).1
  clear hg5 hat5 hown0 hsrc
  have hsrc : Bytes (w5.alloc (.cells (bv [0, 0, 0]).toArray 5)) (w5.heap.size + 1) (some ⟨w5.heap.size, 0, none⟩) 3 [0, 0, 0] := Bytes.lit w5 [0, 0, 0] (0, 0) rfl (by omega)
  replace hown5 := hown5.alloc (.cells (bv [0, 0, 0]).toArray 5)
  have hbw6 : Below w4.heap.size w4 (w5.alloc (.cells (bv [0, 0, 0]).toArray 5)) := hbw5.alloc hbw5.size _
  go_wp2_with (at_builtin; refine wpList_append_bytes _ rfl (.tmp 25) (.tmp 26) rfl rfl w4.heap.size 12 _ l12 rfl hown5 _ _ 3 _ _ rfl hsrc (by omega) ?base ?_)
  case base => exact hbw6.size
  intro v6 w6 hown6 hg6 hat6
  replace hbw6 : Below w4.heap.size w4 w6 := hbw6.grown hg6 hbw6.size hat5'
  clear hg6 hat6 hat5' hown5 hsrc hbw5
  obtain ⟨A6, c6, hv6, hc6, hm6, hx6⟩ := hown6.form
  subst hv6
  clear hown6 hm6
  go_wp2_with fail
  refine (Next_any _ _ _ _ 12 w6 hx6 (by decide) hc6 (by omega) (by omega)).mono ?_
  rw [HL12.out]
  rintro e w7 ⟨A7, c7, rfl, hx7, hc7, hB7, hfr7⟩
  clear hfr7
  have hbw7 : Below w4.heap.size w4 w7 := hbw6.trans (hB7.mono hbw6.size)
  clear hx6 hbw6 hB7 hx7
  have hcv := convert_bytes A4 3 c4 w4.heap.size [97, 98, 99] (w7.alloc (.cells (bv [49, 50, 51, 52, 53, 54, 55, 56, 57]).toArray 5 (9, 10))) ((hx4.below hbw7).alloc hbw7.size _)
  have hs9 : Bytes (w7.alloc (.cells (bv [49, 50, 51, 52, 53, 54, 55, 56, 57]).toArray 5 (9, 10))) (w7.heap.size + 1) (some ⟨w7.heap.size, 0, none⟩) 9 [49, 50, 51, 52, 53, 54, 55, 56, 57] := Bytes.lit w7 _ _ rfl (by omega)
  have hbf : Below w.heap.size w (w7.alloc (.cells (bv [49, 50, 51, 52, 53, 54, 55, 56, 57]).toArray 5 (9, 10))) := (hbw4.trans (hbw7.mono hbw4.size)).alloc (Nat.le_trans hbw4.size hbw7.size) _
  have HB := Lib.hid hbf
  clear hbf hx4 hbw4 hbw7
  go_wp2_with fail
  refine (Sum_any _ _ _ _ _ _ hs9 (by omega)).mono ?_
  rw [sum_nine]
  rintro e w8 ⟨rfl, rfl⟩
  go_wp2_with fail
  refine (Sum_any none 0 0 0 [] _ (Bytes.nil _ _ _) (by omega)).mono ?_
  rw [sum_none]
  rintro e w8 ⟨rfl, rfl⟩
  go_wp2_with fail
  refine (Len_any 3 _ (by omega) (by omega)).mono ?_
  rintro e w8 ⟨rfl, rfl⟩
  rw [if_neg (by omega)]
  go_wp2_with fail
  refine (Len_any (-1) _ (by omega) (by omega)).mono ?_
  rintro e w8 ⟨rfl, rfl⟩
  rw [if_pos (by omega)]
  go_wp2_with fail
  go_ret
  exact ⟨rfl, HB.out⟩
end Go.Proofs.Ytfmjlkgbaanlhaa
