/-
  The two checksums of any bytes are the complement of the register; the two readings of four bytes give the number of these bytes.
-/
import Derived.Test.YtfmjlkgbaanlhaaFrCrc
import Derived.Deep.QuietTactic
import Derived.BigQuiet
namespace Go.Proofs.Ytfmjlkgbaanlhaa
open Go.RowKit
set_option linter.unusedVariables false
set_option linter.unusedSimpArgs false

def sumF (bs : List UInt8) : Nat := 4294967295 - crc 4294967295 bs
theorem sumF_lt (bs : List UInt8) : sumF bs < 4294967296 := by unfold sumF; omega
theorem not32 (x : Nat) (hx : x < 4294967296) : bits .xor .u32 IntKind.u32.max (x : Int) = ((4294967295 - x : Nat) : Int) := by
  have h : bits .xor .u32 ((4294967295 : Nat) : Int) (x : Int) = ((4294967295 ^^^ x : Nat) : Int) := u32_xor_nat _ _ (by omega) hx
  have e : 4294967295 ^^^ x = 4294967295 - x := by
    have := BitVec.toNat_not (x := BitVec.ofNat 32 x)
    rw [BitVec.not_def, BitVec.toNat_xor, BitVec.toNat_allOnes, BitVec.toNat_ofNat, Nat.mod_eq_of_lt hx] at this
    simpa using this
  rw [← e, ← h]
  rfl

def num4 (a b c d : UInt8) : Nat := a.toNat * 16777216 + b.toNat * 65536 + c.toNat * 256 + d.toNat
theorem num4_lt (a b c d : UInt8) : num4 a b c d < 4294967296 := by
  have := byte_lt a
  have := byte_lt b
  have := byte_lt c
  have := byte_lt d
  unfold num4; omega
theorem or4 (a b c d : UInt8) : bits .or .u32 (bits .or .u32 (bits .or .u32 ((a.toNat : Int) * 16777216) ((b.toNat : Int) * 65536)) ((c.toNat : Int) * 256)) (d.toNat : Int) = ((num4 a b c d : Nat) : Int) := by
  have ha := byte_lt a
  have hb := byte_lt b
  have hc := byte_lt c
  have hd := byte_lt d
  have e1 : bits .or .u32 ((a.toNat : Int) * 16777216) ((b.toNat : Int) * 65536) = ((a.toNat * 16777216 + b.toNat * 65536 : Nat) : Int) := by
    have := u32_or_nat (a.toNat * 16777216) (b.toNat * 65536) (by omega) (by omega)
    rw [nat_join 24 _ _ (by omega) (by omega)] at this
    exact this
  have e2 : bits .or .u32 ((a.toNat * 16777216 + b.toNat * 65536 : Nat) : Int) ((c.toNat : Int) * 256) = ((a.toNat * 16777216 + b.toNat * 65536 + c.toNat * 256 : Nat) : Int) := by
    have := u32_or_nat (a.toNat * 16777216 + b.toNat * 65536) (c.toNat * 256) (by omega) (by omega)
    rw [nat_join 16 _ _ (by omega) (by omega)] at this
    exact this
  have e3 : bits .or .u32 ((a.toNat * 16777216 + b.toNat * 65536 + c.toNat * 256 : Nat) : Int) (d.toNat : Int) = ((num4 a b c d : Nat) : Int) := by
    have := u32_or_nat (a.toNat * 16777216 + b.toNat * 65536 + c.toNat * 256) d.toNat (by omega) (by omega)
    rw [nat_join 8 _ _ (by omega) (by omega)] at this
    exact this
  rw [e1, e2, e3]
/-- the number of the first four bytes -/
def beNum (bs : List UInt8) : Nat := num4 (bs.getD 0 0) (bs.getD 1 0) (bs.getD 2 0) (bs.getD 3 0)
theorem beNum_lt (bs : List UInt8) : beNum bs < 4294967296 := num4_lt _ _ _ _
theorem getD_at (bs : List UInt8) (k : Nat) (h : k < bs.length) : bs.getD k 0 = bs[k] := by simp [List.getD, h]
theorem ret_u32 {a b : Int} (h : a = b) : Ending.returned (.int .u32 a) = .returned (.int .u32 b) := by rw [h]

set_option maxHeartbeats 400000 in
theorem Sum_any (A : Option Addr) (n c B : Nat) (bs : List UInt8) (w : World) (h : Bytes w B A n bs) (hn : n ≤ 9223372036854775807) :
    Calls Try.prog 9 #[.slice A n c] w fun e w' => e = .returned (.int .u32 (sumF bs : Nat)) ∧ w = w' := by
  have hs : IntKind.u32.signed = false := rfl
  go_enter Try.func9, Try.ntmps9
  go_wp2_with fail
  refine (update_any 4294967295 A n c B bs _ (by omega) h hn).mono ?_
  rintro e w' ⟨rfl, rfl⟩
  go_wp2_with fail
  go_ret
  exact ⟨ret_u32 (not32 _ (crc_lt bs (by omega))), rfl⟩

set_option maxHeartbeats 400000 in
theorem sum_any (A A2 : Option Addr) (n c n2 c2 B : Nat) (bs bs2 : List UInt8) (w : World) (h : Bytes w B A n bs) (hn : n ≤ 9223372036854775807) (h2 : Bytes w B A2 n2 bs2) (hn2 : n2 ≤ 9223372036854775807) :
    Calls Try.prog 27 #[.slice A n c, .slice A2 n2 c2] w fun e w' => e = .returned (.int .u32 (sumF (bs ++ bs2) : Nat)) ∧ w = w' := by
  have hs : IntKind.u32.signed = false := rfl
  have HA := Lib.hid (crc_append 4294967295 bs bs2)
  go_enter Try.func27, Try.ntmps27
  go_wp2_with fail
  refine (update_any 4294967295 A n c B bs _ (by omega) h hn).mono ?_
  rintro e w' ⟨rfl, rfl⟩
  go_wp2_with fail
  refine (update_any (crc 4294967295 bs) A2 n2 c2 B bs2 _ (crc_lt bs (by omega)) h2 hn2).mono ?_
  rintro e w' ⟨rfl, rfl⟩
  go_wp2_with fail
  go_ret
  exact ⟨ret_u32 (by rw [sumF, HA.out]; exact not32 _ (crc_lt bs2 (crc_lt bs (by omega)))), rfl⟩

set_option maxHeartbeats 400000 in
theorem get_any (A : Option Addr) (n c B : Nat) (bs : List UInt8) (w : World) (h : Bytes w B A n bs) (hn : 4 ≤ n) :
    Calls Try.prog 29 #[.slice A n c] w fun e w' => e = .returned (.int .u32 (beNum bs : Nat)) ∧ ∃ m, w' = w.drewN m := by
  obtain ⟨b, off, rfl, _, hc⟩ := h.at_ (by omega)
  have hl := h.len
  have h0 : w.cell? ⟨b, off, none⟩ = some (.int .u8 (bs.getD 0 0).toNat) := by rw [getD_at bs 0 (by omega)]; exact hc 0 (by omega)
  have h1 : w.cell? ⟨b, off + 1, none⟩ = some (.int .u8 (bs.getD 1 0).toNat) := by rw [getD_at bs 1 (by omega)]; exact hc 1 (by omega)
  have h2 : w.cell? ⟨b, off + 2, none⟩ = some (.int .u8 (bs.getD 2 0).toNat) := by rw [getD_at bs 2 (by omega)]; exact hc 2 (by omega)
  have h3 : w.cell? ⟨b, off + 3, none⟩ = some (.int .u8 (bs.getD 3 0).toNat) := by rw [getD_at bs 3 (by omega)]; exact hc 3 (by omega)
  unfold beNum
  generalize bs.getD 0 0 = x0 at *
  generalize bs.getD 1 0 = x1 at *
  generalize bs.getD 2 0 = x2 at *
  generalize bs.getD 3 0 = x3 at *
  clear hc hl h
  have hb0 := byte_lt x0
  have hb1 := byte_lt x1
  have hb2 := byte_lt x2
  have hb3 := byte_lt x3
  have i0 : (0 : Int) < (n : Int) := by omega
  have i1 : (1 : Int) < (n : Int) := by omega
  have i2 : (2 : Int) < (n : Int) := by omega
  have i3 : (3 : Int) < (n : Int) := by omega
  go_enter Try.func29, Try.ntmps29
  go_wp2
  go_quiet (fail)
  go_wp2
  go_ret
  exact ⟨ret_u32 (or4 x0 x1 x2 x3), _, rfl⟩

set_option maxHeartbeats 400000 in
theorem number_any (A : Option Addr) (n c B : Nat) (bs : List UInt8) (w : World) (h : Bytes w B A n bs) (hn : 4 ≤ n) :
    Calls Try.prog 30 #[.slice A n c] w fun e w' => e = .returned (.int .u32 (beNum bs : Nat)) ∧ ∃ m, w' = w.drewN m := by
  obtain ⟨b, off, rfl, _, hc⟩ := h.at_ (by omega)
  have hl := h.len
  have h0 : w.cell? ⟨b, off, none⟩ = some (.int .u8 (bs.getD 0 0).toNat) := by rw [getD_at bs 0 (by omega)]; exact hc 0 (by omega)
  have h1 : w.cell? ⟨b, off + 1, none⟩ = some (.int .u8 (bs.getD 1 0).toNat) := by rw [getD_at bs 1 (by omega)]; exact hc 1 (by omega)
  have h2 : w.cell? ⟨b, off + 2, none⟩ = some (.int .u8 (bs.getD 2 0).toNat) := by rw [getD_at bs 2 (by omega)]; exact hc 2 (by omega)
  have h3 : w.cell? ⟨b, off + 3, none⟩ = some (.int .u8 (bs.getD 3 0).toNat) := by rw [getD_at bs 3 (by omega)]; exact hc 3 (by omega)
  unfold beNum
  generalize bs.getD 0 0 = x0 at *
  generalize bs.getD 1 0 = x1 at *
  generalize bs.getD 2 0 = x2 at *
  generalize bs.getD 3 0 = x3 at *
  clear hc hl h
  have hb0 := byte_lt x0
  have hb1 := byte_lt x1
  have hb2 := byte_lt x2
  have hb3 := byte_lt x3
  have i0 : (0 : Int) < (n : Int) := by omega
  have i1 : (1 : Int) < (n : Int) := by omega
  have i2 : (2 : Int) < (n : Int) := by omega
  have i3 : (3 : Int) < (n : Int) := by omega
  go_enter Try.func30, Try.ntmps30
  go_wp2
  go_quiet (fail)
  go_wp2
  go_ret
  exact ⟨ret_u32 (by unfold num4; omega), _, rfl⟩

theorem bit_odd' (x : Nat) (hx : x < 4294967296) (h : ((x : Int) % 2 == 1) = true) : bits .xor .u32 ((x : Int) / 2) 2197175160 = ((crcBit x : Nat) : Int) := by
  have h2 := eq_of_beq h
  have h3 : bits .xor .u32 ((x / 2 : Nat) : Int) ((2197175160 : Nat) : Int) = ((x / 2 ^^^ 2197175160 : Nat) : Int) := u32_xor_nat _ _ (by omega) (by omega)
  unfold crcBit
  rw [if_pos (by omega), ← h3]
  rfl
theorem bit_even' (x : Nat) (h : ((x : Int) % 2 == 1) = false) : (x : Int) / 2 = ((crcBit x : Nat) : Int) := by
  have h2 := ne_of_beq_false h
  unfold crcBit
  rw [if_neg (by omega)]
  rfl

set_option maxHeartbeats 400000 in
theorem step_any (r : Nat) (c : UInt8) (w : World) (hr : r < 4294967296) :
    Calls Try.prog 25 #[.int .u32 (r : Int), .int .u8 (c.toNat : Int)] w fun e w' => e = .returned (.int .u32 (crcByte r c : Nat)) ∧ w = w' := by
  go_enter Try.func25, Try.ntmps25
  go_wp2
  go_loop [0, 5] (fun q i => ∃ m : Nat, m ≤ 8 ∧ i = .int .i64 m ∧ q = .int .u32 (crcBits m (r ^^^ c.toNat) : Nat)) (fun _ i => 8 - (intOf i).toNat)
  case atStart => exact ⟨0, Nat.zero_le _, rfl, congrArg _ (xor_byte _ _ hr)⟩
  case round =>
    obtain ⟨m, hm, rfl, rfl⟩ := hrel
    have hx := crcBits_lt m (xor32 hr (Nat.lt_trans (byte_lt c) (by omega)))
    by_cases hlm : m < 8
    · go_wp2
      all_goals
        go_round
        case rel => exact ⟨m + 1, by omega, by go_num, congrArg _ (by first | exact bit_odd' _ hx ‹_› | exact bit_even' _ ‹_›)⟩
        case measure => simp [intOf]; omega
    · have hm8 : m = 8 := by omega
      subst hm8
      go_wp2
      go_ret
      exact ⟨rfl, rfl⟩

set_option maxHeartbeats 400000 in
theorem refSum_any (A : Option Addr) (n c B : Nat) (bs : List UInt8) (w : World) (h : Bytes w B A n bs) (hn : n ≤ 9223372036854775807) :
    Calls Try.prog 10 #[.slice A n c] w fun e w' => e = .returned (.int .u32 (sumF bs : Nat)) ∧ w = w' := by
  have hs : IntKind.u32.signed = false := rfl
  go_enter Try.func10, Try.ntmps10
  go_wp2_with fail
  go_loop [3, 8] (fun q i => ∃ k : Nat, k ≤ n ∧ i = .int .i64 k ∧ q = .int .u32 (crc 4294967295 (bs.take k) : Nat)) (fun _ i => n - (intOf i).toNat)
  case atStart => exact ⟨0, Nat.zero_le _, rfl, rfl⟩
  case round =>
    obtain ⟨k, hk, rfl, rfl⟩ := hrel
    have hl : crc 4294967295 (bs.take k) < 4294967296 := crc_lt _ (by omega)
    by_cases hlt : k < n
    · obtain ⟨b, off, rfl, hb, hc⟩ := h.cell hlt
      have HT := Lib.hid (crc_take 4294967295 bs k _ (List.getElem?_eq_getElem (by rw [h.len]; exact hlt)))
      go_wp2_with fail
      refine (step_any _ _ _ hl).mono ?_
      rintro e w' ⟨rfl, rfl⟩
      go_wp2_with fail
      go_round
      case rel => exact ⟨k + 1, by omega, by go_num, by rw [HT.out]⟩
      case measure => simp [intOf]; omega
    · have HT := Lib.hid (List.take_of_length_le (l := bs) (i := k) (by rw [h.len]; omega))
      go_wp2_with fail
      go_ret
      exact ⟨ret_u32 (by rw [HT.out]; exact not32 _ (crc_lt bs (by omega))), rfl⟩

end Go.Proofs.Ytfmjlkgbaanlhaa
