/-
  The reference's Append of any bytes and a body of at most 2^20 bytes: the bytes, followed by the frame of the body.
-/
import Derived.Test.YtfmjlkgbaanlhaaFrLaws
namespace Go.Proofs.Ytfmjlkgbaanlhaa
open Go.RowKit
set_option linter.unusedVariables false
set_option linter.unusedSimpArgs false

theorem Own.below {w w' : World} {base : Nat} {v : Value} {n : Nat} {bs : List UInt8} (h : Own w base v n bs) (hb : Below w.heap.size w w') : Own w' base v n bs := by
  have hg : w.grownBy w' none := ⟨hb.os, hb.tape, hb.output, hb.size, fun i hi _ => hb.block i hi⟩
  refine World.ownsRow.kept h hg ?_
  rcases hv : v.ownBlock with _ | x
  · exact .inl rfl
  · exact .inr (by simp)
theorem Own.lt {w : World} {base : Nat} {v : Value} {n : Nat} {bs : List UInt8} (h : Own w base v n bs) : ∀ k, v.ownBlock = some k → base ≤ k ∧ k < w.heap.size := World.ownsRow.lt h
/-- an empty slice of the call's own in a new block -/
theorem Own.empty (w : World) (base : Nat) (hb : base ≤ w.heap.size) : Own (w.alloc (.cells #[] 5)) base (.slice (some ⟨w.heap.size, 0, none⟩) 0 0) 0 [] := Own.of_BB (BB.new w []) hb rfl (by decide)

set_option maxHeartbeats 1000000 in
theorem refAppend_any (A A2 : Option Addr) (n c m c2 : Nat) (bs bs2 : List UInt8) (w : World) (h : Bytes w w.heap.size A n bs) (h2 : Bytes w w.heap.size A2 m bs2) (hn : n ≤ 70368744177664) (hm : m ≤ 1048576) :
    Calls Try.prog 13 #[.slice A n c, .slice A2 m c2] w fun e w' => ∃ A' c', e = .returned (.tuple #[.slice A' (n + 8 + m) c', .int .i64 0]) ∧ Bytes w' w'.heap.size A' (n + 8 + m) (bs ++ frameF bs2) ∧ n + 8 + m ≤ c' ∧ Below w.heap.size w w' := by
  have d0 : decide ((1048576 : Int) < (m : Int)) = false := decide_eq_false (by omega)
  have e0 : IntKind.u32.wrap (m : Int) = (m : Int) := by rw [IntKind.wrap_u32']; omega
  go_enter Try.func13, Try.ntmps13
  go_wp2_with fail
  refine (four_any m w (by omega)).mono ?_
  rintro e w1 ⟨rfl, hw1⟩
  have hsz : Bytes w1 (w.heap.size + 1) (some ⟨w.heap.size, 0, none⟩) 4 (be4 m) := by
    rw [hw1]; exact (BB.new w (be4 m)).bytes (by omega)
  have hb1 : Below w.heap.size w w1 := by rw [hw1]; exact (Below.refl _ _).alloc (Nat.le_refl _) _
  have hs1 : w1.heap.size = w.heap.size + 1 := by rw [hw1]; simp
  clear hw1
  have HS1 := Lib.hid hs1
  clear hs1
  -- out
  have ho0 := Own.empty w1 (w.heap.size + 1) (by rw [HS1.out]; omega)
  have hb2 : Below (w.heap.size + 1) w1 (w1.alloc (.cells #[] 5)) := (Below.refl _ _).alloc (by rw [HS1.out]; omega) _
  have hA1 := (h.below hb1).alloc (o := .cells #[] 5) hb1.size
  go_wp2_with (at_builtin; refine wpList_append_bytes _ rfl (.tmp 15) (.tmp 16) rfl rfl (w.heap.size + 1) 0 (.slice (some ⟨w1.heap.size, 0, none⟩) 0 0) [] rfl ho0 w.heap.size A n c bs rfl hA1 ?len ?base ?_)
  case len => omega
  case base => have := HS1.out; simp; omega
  intro v3 w3 hown3 hg3 hat3
  replace hb2 : Below (w.heap.size + 1) w1 w3 := hb2.grown hg3 (by have := HS1.out; simp; omega) (by have := HS1.out; simp [Value.ownBlock]; omega)
  clear ho0 hA1 hg3 hat3
  have hsz3 := hsz.below hb2
  go_wp2_with (at_builtin; refine wpList_append_bytes _ rfl (.tmp 17) (.tmp 18) rfl rfl (w.heap.size + 1) n v3 bs rfl hown3 (w.heap.size + 1) (some ⟨w.heap.size, 0, none⟩) 4 4 (be4 m) rfl hsz3 ?len2 ?base2 ?_)
  case len2 => omega
  case base2 => have := HS1.out; have := hb2.size; omega
  intro v4 w4 hown4 hg4 hat4
  replace hb2 : Below (w.heap.size + 1) w1 w4 := hb2.grown hg4 (by have := HS1.out; have := hb2.size; omega) (fun g hg => (hown3.lt g hg).1)
  clear hown3 hg4 hat4 hsz3
  have hs4 : w.heap.size + 1 ≤ w4.heap.size := by have := HS1.out; have := hb2.size; omega
  -- the length and the body
  have ho5 := Own.empty w4 w4.heap.size (Nat.le_refl _)
  have hb5 : Below w4.heap.size w4 (w4.alloc (.cells #[] 5)) := (Below.refl _ _).alloc (Nat.le_refl _) _
  have hsz5 := (hsz.below hb2).alloc (o := .cells #[] 5) hs4
  go_wp2_with (at_builtin; refine wpList_append_bytes _ rfl (.tmp 21) (.tmp 22) rfl rfl w4.heap.size 0 (.slice (some ⟨w4.heap.size, 0, none⟩) 0 0) [] rfl ho5 (w.heap.size + 1) (some ⟨w.heap.size, 0, none⟩) 4 4 (be4 m) rfl hsz5 ?len3 ?base3 ?_)
  case len3 => omega
  case base3 => simp
  intro v6 w6 hown6 hg6 hat6
  replace hb5 : Below w4.heap.size w4 w6 := hb5.grown hg6 hb5.size (by simp [Value.ownBlock])
  clear ho5 hg6 hat6 hsz5 hsz
  have hB6 : Below w.heap.size w w6 := (hb1.trans (hb2.mono (by omega))).trans (hb5.mono (by omega))
  have hA6 := h2.below hB6
  go_wp2_with (at_builtin; refine wpList_append_bytes _ rfl (.tmp 23) (.tmp 24) rfl rfl w4.heap.size 4 v6 (be4 m) rfl hown6 w.heap.size A2 m c2 bs2 rfl hA6 ?len4 ?base4 ?_)
  case len4 => omega
  case base4 => exact hb5.size
  intro v7 w7 hown7 hg7 hat7
  replace hb5 : Below w4.heap.size w4 w7 := hb5.grown hg7 hb5.size (fun g hg => (hown6.lt g hg).1)
  clear hown6 hg7 hat7 hA6 hB6
  obtain ⟨A7, c7, hv7, hc7, hm7, hx7⟩ := hown7.form
  subst hv7
  clear hown7 hm7
  go_wp2_with fail
  refine (refSum_any _ _ _ _ _ _ hx7 (by omega)).mono ?_
  rintro e w8 ⟨rfl, rfl⟩
  generalize hS : sumF (be4 m ++ bs2) = S
  have hSl : S < 4294967296 := by rw [← hS]; exact sumF_lt _
  have HSum := Lib.hid hS
  clear hS
  go_wp2_with fail
  refine (four_any S w7 hSl).mono ?_
  rintro e w9 ⟨rfl, hw9⟩
  have hsz9 : Bytes w9 w9.heap.size (some ⟨w7.heap.size, 0, none⟩) 4 (be4 S) := by
    rw [hw9]; exact (BB.new w7 (be4 S)).bytes (by simp)
  have hb9 : Below w4.heap.size w4 w9 := by rw [hw9]; exact hb5.alloc hb5.size _
  clear hw9 hx7 hb5
  have hown9 := hown4.below hb9
  have hbw : Below w.heap.size w w9 := (hb1.trans (hb2.mono (by omega))).trans (hb9.mono (by omega))
  have hs9 : w.heap.size + 1 ≤ w9.heap.size := Nat.le_trans hs4 hb9.size
  clear hown4 hb9 hb2 hb1
  go_wp2_with (at_builtin; refine wpList_append_bytes _ rfl (.tmp 20) (.tmp 27) rfl rfl (w.heap.size + 1) (n + 4) v4 (bs ++ be4 m) rfl hown9 w9.heap.size (some ⟨w7.heap.size, 0, none⟩) 4 4 (be4 S) rfl hsz9 ?len5 ?base5 ?_)
  case len5 => omega
  case base5 => exact hs9
  intro v10 w10 hown10 hg10 hat10
  replace hown10 : Own w10 (w.heap.size + 1) v10 (n + 8) (bs ++ (be4 m ++ be4 S)) := by simpa [Nat.add_assoc] using hown10
  replace hbw : Below w.heap.size w w10 := hbw.grown hg10 hbw.size (fun g hg => Nat.le_of_succ_le (hown9.lt g hg).1)
  have hs10 : w.heap.size + 1 ≤ w10.heap.size := Nat.le_trans hs9 hg10.size
  clear hown9 hg10 hat10 hsz9
  have hA10 := h2.below hbw
  go_wp2_with (at_builtin; refine wpList_append_bytes _ rfl (.tmp 29) (.tmp 30) rfl rfl (w.heap.size + 1) (n + 8) v10 (bs ++ (be4 m ++ be4 S)) rfl hown10 w.heap.size A2 m c2 bs2 rfl hA10 ?len6 ?base6 ?_)
  case len6 => omega
  case base6 => exact hs10
  intro v11 w11 hown11 hg11 hat11
  replace hown11 : Own w11 (w.heap.size + 1) v11 (n + 8 + m) (bs ++ frameF bs2) := by
    have e : bs ++ (be4 m ++ be4 S) ++ bs2 = bs ++ frameF bs2 := by rw [frameF, h2.len, HSum.out]; simp
    rw [← e]
    simpa using hown11
  replace hbw : Below w.heap.size w w11 := hbw.grown hg11 hbw.size (fun g hg => Nat.le_of_succ_le (hown10.lt g hg).1)
  clear hown10 hg11 hat11 hA10
  obtain ⟨A11, c11, hv11, hc11, hm11, hx11⟩ := hown11.form
  subst hv11
  clear hown11
  go_wp2_with fail
  go_ret2
  exact ⟨A11, c11, rfl, hx11, hc11, hbw⟩
end Go.Proofs.Ytfmjlkgbaanlhaa
