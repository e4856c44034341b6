/-
  The walk of the law FrameDamage.
-/
import Derived.Test.YtfmjlkgbaanlhaaFrLaws
import Derived.Test.YtfmjlkgbaanlhaaFrDamPlain
import Derived.Laws.ShiftsVarLaws
namespace Go.Proofs.Ytfmjlkgbaanlhaa
open Go.RowKit
set_option linter.unusedVariables false
set_option linter.unusedSimpArgs false

theorem u16_bounds {x : Int} (h : (Lit.int .u16 x).wf = true) : 0 ≤ x ∧ x ≤ 65535 := by
  simpa [Lit.wf, IntKind.min, IntKind.max, IntKind.signed, IntKind.bits] using h
theorem u8_bounds {x : Int} (h : (Lit.int .u8 x).wf = true) : 0 ≤ x ∧ x ≤ 255 := by
  simpa [Lit.wf, IntKind.min, IntKind.max, IntKind.signed, IntKind.bits] using h
/-- a byte with one bit inverted -/
def flip (c : UInt8) (u : Nat) : UInt8 := UInt8.ofNat (c.toNat ^^^ 2 ^ (u % 8))
theorem pow8 (u : Nat) : 2 ^ (u % 8) < 256 := by
  have h : u % 8 ≤ 7 := by omega
  have := Nat.pow_le_pow_right (n := 2) (by omega) h
  omega
theorem flip_toNat (c : UInt8) (u : Nat) : (flip c u).toNat = c.toNat ^^^ 2 ^ (u % 8) := by
  have h : c.toNat ^^^ 2 ^ (u % 8) < 2 ^ 8 := Nat.xor_lt_two_pow (byte_lt c) (pow8 u)
  unfold flip
  rw [ofNat_toNat]
  omega
theorem flip_ne (c : UInt8) (u : Nat) : flip c u ≠ c := by
  intro h
  have h1 := flip_toNat c u
  rw [h] at h1
  have h2 : c.toNat ^^^ c.toNat = c.toNat ^^^ (c.toNat ^^^ 2 ^ (u % 8)) := by rw [← h1]
  rw [Nat.xor_self, ← Nat.xor_assoc, Nat.xor_self, Nat.zero_xor] at h2
  have := Nat.pow_pos (n := u % 8) (show 0 < 2 by omega)
  omega
theorem flip_bits (c : UInt8) (u : Nat) : bits .xor .u8 (c.toNat : Int) ((2 : Int) ^ (u % 8) % 256) = ((flip c u).toNat : Int) := by
  have hp := pow8 u
  have e : ((2 : Int) ^ (u % 8) % 256) = ((2 ^ (u % 8) : Nat) : Int) := by
    have : ((2 : Int) ^ (u % 8)) = ((2 ^ (u % 8) : Nat) : Int) := by simp
    rw [this]
    generalize 2 ^ (u % 8) = P at hp ⊢
    omega
  rw [e, u8_xor_nat _ _ (byte_lt c) hp, flip_toNat]
theorem modC (t m : Nat) : (t : Int) % (4 + (m : Int)) = ((t % (4 + m) : Nat) : Int) := by simp
theorem errno_eq : ((4 : Int) == 4) = true := by decide

set_option maxHeartbeats 400000 in
theorem frameDamage_walk (A A2 : Option Addr) (n c m c2 : Nat) (bs bs2 : List UInt8) (at_ bit : Int) (w : World) (h : Bytes w w.heap.size A n bs) (h2 : Bytes w w.heap.size A2 m bs2) (hn : n ≤ 140737488355328) (hm : m ≤ 140737488355328)
    (ha0 : 0 ≤ at_) (ha1 : at_ ≤ 65535) (hb0 : 0 ≤ bit) (hb1 : bit ≤ 255) :
    Calls Try.prog 6 #[.slice A n c, .slice A2 m c2, .int .u16 at_, .int .u8 bit] w fun e w' => e = .returned (.bool true) ∧ Below w.heap.size w w' := by
  by_cases h5 : (5000 : Int) < (n : Int) + (m : Int)
  · go_enter Try.func6, Try.ntmps6
    go_wp2_with fail
    refine (works_true w).mono ?_
    rintro e w1 ⟨rfl, hb⟩
    go_wp2_with fail
    go_ret
    exact ⟨rfl, hb⟩
  · obtain ⟨t, rfl⟩ := Int.eq_ofNat_of_zero_le ha0
    obtain ⟨u, rfl⟩ := Int.eq_ofNat_of_zero_le hb0
    go_enter Try.func6, Try.ntmps6
    go_wp2_with fail
    refine (Append_any _ _ n c m c2 bs bs2 w h h2 hn (by omega)).mono ?_
    rintro e w1 ⟨rfl, hx1, hB1⟩
    go_wp2_with fail
    refine (Len_any (m : Int) w1 (by omega) (by omega)).mono ?_
    rw [if_neg (by omega)]
    rintro e w2 ⟨rfl, rfl⟩
    have hl : (bs ++ frameF bs2).length = n + 8 + m := by rw [List.length_append, frameF_length, h.len, h2.len]; omega
    have HLn := Lib.hid hl
    clear hl
    have hpos : t % (4 + m) < 4 + m := Nat.mod_lt _ (by omega)
    have hcell := hx1.cell (j := n + 4 + t % (4 + m)) (by rw [HLn.out]; omega)
    have hfro := hx1.frozen (n + 4 + t % (4 + m))
    have i1 : ((n : Int) + 4 + (t : Int) % (4 + (m : Int))).toNat = n + 4 + t % (4 + m) := by rw [modC]; omega
    have d1 : (((n + 8 + m : Nat) : Int) != (n : Int) + ((m : Int) + 8)) = false := by simp; omega
    have hdam := next_damage bs bs2 (t % (4 + m)) (flip ((bs ++ frameF bs2)[n + 4 + t % (4 + m)]'(by rw [HLn.out]; omega)) u) (by rw [h2.len]; omega) (by rw [h2.len]; exact hpos) (by simp only [h.len]; exact flip_ne _ _)
    rw [h.len] at hdam
    have HD := Lib.hid hdam
    clear hdam
    have hfb := Lib.hid (flip_bits ((bs ++ frameF bs2)[n + 4 + t % (4 + m)]'(by rw [HLn.out]; omega)) u)
    go_wp2_with fail
    rw [hfb.out]
    have hx2 := hx1.set (n + 4 + t % (4 + m)) (flip ((bs ++ frameF bs2)[n + 4 + t % (4 + m)]'(by rw [HLn.out]; omega)) u)
    have hB2 := hB1.setCell (p := ⟨w.heap.size, n + 4 + t % (4 + m), none⟩) (Nat.le_refl _) (.int .u8 ((flip ((bs ++ frameF bs2)[n + 4 + t % (4 + m)]'(by rw [HLn.out]; omega)) u).toNat : Int))
    have hls : ((bs ++ frameF bs2).set (n + 4 + t % (4 + m)) (flip ((bs ++ frameF bs2)[n + 4 + t % (4 + m)]'(by rw [HLn.out]; omega)) u)).length = n + 8 + m := by rw [List.length_set, HLn.out]
    clear hcell hfro hfb hx1 hB1 i1
    generalize w1.setCell _ _ = w3 at hx2 hB2 ⊢
    generalize List.set _ _ _ = l at *
    have hxb := hx2.bytes (B := w3.heap.size) hx2.lt
    rw [hls] at hxb
    clear hls hx2
    refine (Next_any _ _ _ l (n : Int) w3 hxb (by omega) (Nat.le_refl _) (by omega) (by omega)).mono ?_
    rw [HD.out]
    rintro e w4 ⟨A4, c4, rfl, hx4, hc4, hB4⟩
    have hbw : Below w.heap.size w w4 := hB2.trans (hB4.mono hB2.size)
    clear hB2 hB4 hx4
    go_wp2_with fail
    refine (works_true w4).mono ?_
    rintro e w5 ⟨rfl, hb⟩
    go_wp2_with fail
    go_ret
    exact ⟨rfl, hbw.trans (hb.mono hbw.size)⟩
end Go.Proofs.Ytfmjlkgbaanlhaa
