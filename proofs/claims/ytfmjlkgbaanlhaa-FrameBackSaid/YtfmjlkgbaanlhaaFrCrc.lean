/-
  frame.update continues the register of chapter 10 over any bytes.
-/
import Derived.Test.YtfmjlkgbaanlhaaProg
import Derived.Test.YtfmjlkgbaanlhaaFrPlain
import Derived.Lib.Hide
namespace Go.Proofs.Ytfmjlkgbaanlhaa
open Go.RowKit
set_option linter.unusedVariables false
set_option linter.unusedSimpArgs false

theorem xor_byte (x : Nat) (c : UInt8) (hx : x < 4294967296) : bits .xor .u32 (x : Int) ((c.toNat : Int) % 4294967296) = ((x ^^^ c.toNat : Nat) : Int) := by
  have hc := byte_lt c
  rw [show ((c.toNat : Int) % 4294967296) = (c.toNat : Int) from by omega]
  exact u32_xor_nat _ _ hx (by omega)

theorem bit_odd (x : Nat) (hx : x < 4294967296) (h : (bits .and .u32 (x : Int) 1 == 1) = true) : bits .xor .u32 ((x : Int) / 2) 2197175160 = ((crcBit x : Nat) : Int) := by
  have h1 : bits .and .u32 (x : Int) ((1 : Nat) : Int) = ((x &&& 1 : Nat) : Int) := u32_and_nat x 1 hx (by omega)
  have h2 : ((x &&& 1 : Nat) : Int) = 1 := by rw [← h1]; exact eq_of_beq h
  rw [nat_mask1] at h2
  have h3 : bits .xor .u32 ((x / 2 : Nat) : Int) ((2197175160 : Nat) : Int) = ((x / 2 ^^^ 2197175160 : Nat) : Int) := u32_xor_nat _ _ (by omega) (by omega)
  unfold crcBit
  rw [if_pos (by omega), ← h3]
  rfl
theorem bit_even (x : Nat) (hx : x < 4294967296) (h : (bits .and .u32 (x : Int) 1 == 1) = false) : (x : Int) / 2 = ((crcBit x : Nat) : Int) := by
  have h1 : bits .and .u32 (x : Int) ((1 : Nat) : Int) = ((x &&& 1 : Nat) : Int) := u32_and_nat x 1 hx (by omega)
  have h2 : ¬ ((x &&& 1 : Nat) : Int) = 1 := by rw [← h1]; exact ne_of_beq_false h
  rw [nat_mask1] at h2
  unfold crcBit
  rw [if_neg (by omega)]
  rfl

set_option maxHeartbeats 400000 in
theorem update_any (r : Nat) (A : Option Addr) (n c B : Nat) (bs : List UInt8) (w : World) (hr : r < 4294967296) (h : Bytes w B A n bs) (hn : n ≤ 9223372036854775807) :
    Calls Try.prog 24 #[.int .u32 (r : Int), .slice A n c] w fun e w' => e = .returned (.int .u32 (crc r bs : Nat)) ∧ w = w' := by
  go_enter Try.func24, Try.ntmps24
  go_wp2
  go_loop [0, 9] (fun q i => ∃ k : Nat, k ≤ n ∧ i = .int .i64 k ∧ q = .int .u32 (crc r (bs.take k) : Nat)) (fun _ i => n - (intOf i).toNat)
  case atStart => exact ⟨0, Nat.zero_le _, rfl, rfl⟩
  case round =>
    obtain ⟨k, hk, rfl, rfl⟩ := hrel
    by_cases hlt : k < n
    · obtain ⟨b, off, rfl, hb, hc⟩ := h.cell hlt
      have hl := crc_lt (bs.take k) hr
      go_wp2
      go_loop [0, 17] (fun q i => ∃ m : Nat, m ≤ 8 ∧ i = .int .i64 m ∧ q = .int .u32 (crcBits m (crc r (bs.take k) ^^^ (bs[k]'(by rw [h.len]; exact hlt)).toNat) : Nat)) (fun _ i => 8 - (intOf i).toNat)
      case atStart => exact ⟨0, Nat.zero_le _, rfl, congrArg _ (xor_byte _ _ hl)⟩
      case round =>
        obtain ⟨m, hm, rfl, rfl⟩ := hrel
        by_cases hlm : m < 8
        · have hx := crcBits_lt m (xor32 hl (Nat.lt_trans (byte_lt (bs[k]'(by rw [h.len]; exact hlt))) (by omega)))
          go_wp2
          all_goals
            go_round
            case rel => exact ⟨m + 1, by omega, by go_num, congrArg _ (by first | exact bit_odd _ hx ‹_› | exact bit_even _ hx ‹_›)⟩
            case measure => simp [intOf]; omega
        · have hm8 : m = 8 := by omega
          subst hm8
          have HT := Lib.hid (crc_take r bs k _ (List.getElem?_eq_getElem (by rw [h.len]; exact hlt)))
          go_wp2
          go_round
          case rel => exact ⟨k + 1, by omega, by go_num, by rw [HT.out]; rfl⟩
          case measure => simp [intOf]; omega
    · have HT := Lib.hid (List.take_of_length_le (l := bs) (i := k) (by rw [h.len]; omega))
      go_wp2
      go_ret
      exact ⟨by rw [HT.out]; rfl, rfl⟩
end Go.Proofs.Ytfmjlkgbaanlhaa
