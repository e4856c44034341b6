/-
  A changed byte after the first four bytes of a frame changes what is read there to the error of the checksum. Plain lemmas, no program. Condition: the body has at most 2^20 bytes.
-/
import Derived.Test.YtfmjlkgbaanlhaaFrNext
namespace Go.Proofs.Ytfmjlkgbaanlhaa
open Go.RowKit
set_option linter.unusedVariables false
set_option linter.unusedSimpArgs false

theorem xor_cancel {a b p : Nat} (h : a ^^^ p = b ^^^ p) : a = b := by
  have h2 : (a ^^^ p) ^^^ p = (b ^^^ p) ^^^ p := by rw [h]
  rwa [Nat.xor_assoc, Nat.xor_assoc, Nat.xor_self, Nat.xor_zero, Nat.xor_zero] at h2
theorem crcBit_inj {r s : Nat} (hr : r < 4294967296) (hs : s < 4294967296) (h : crcBit r = crcBit s) : r = s := by
  have key : ∀ x y : Nat, x < 2147483648 → y < 2147483648 → x ^^^ 2197175160 ≠ y := by
    intro x y hx hy e
    have h1 : x ^^^ y = 2197175160 := by
      rw [← e, ← Nat.xor_assoc, Nat.xor_self, Nat.zero_xor]
    have h2 : x ^^^ y < 2 ^ 31 := Nat.xor_lt_two_pow hx hy
    omega
  unfold crcBit at h
  by_cases h1 : r % 2 = 1 <;> by_cases h2 : s % 2 = 1
  · rw [if_pos h1, if_pos h2] at h
    have := xor_cancel h
    omega
  · rw [if_pos h1, if_neg h2] at h
    exact absurd h (key _ _ (by omega) (by omega))
  · rw [if_neg h1, if_pos h2] at h
    exact absurd h.symm (key _ _ (by omega) (by omega))
  · rw [if_neg h1, if_neg h2] at h
    omega
theorem crcBits_inj : ∀ (k : Nat) {r s : Nat}, r < 4294967296 → s < 4294967296 → crcBits k r = crcBits k s → r = s
  | 0, _, _, _, _, h => h
  | k + 1, _, _, hr, hs, h => crcBits_inj k hr hs (crcBit_inj (crcBits_lt k hr) (crcBits_lt k hs) h)
theorem crcByte_inj {r s : Nat} (c : UInt8) (hr : r < 4294967296) (hs : s < 4294967296) (h : crcByte r c = crcByte s c) : r = s :=
  xor_cancel (crcBits_inj 8 (xor32 hr (Nat.lt_trans (byte_lt c) (by omega))) (xor32 hs (Nat.lt_trans (byte_lt c) (by omega))) h)
theorem crc_inj : ∀ (bs : List UInt8) {r s : Nat}, r < 4294967296 → s < 4294967296 → crc r bs = crc s bs → r = s
  | [], _, _, _, _, h => h
  | c :: bs, _, _, hr, hs, h => crcByte_inj c hr hs (crc_inj bs (crcByte_lt c hr) (crcByte_lt c hs) h)
theorem crcByte_diff {r : Nat} {c d : UInt8} (hr : r < 4294967296) (h : crcByte r c = crcByte r d) : c = d := by
  have h1 := crcBits_inj 8 (xor32 hr (Nat.lt_trans (byte_lt c) (by omega))) (xor32 hr (Nat.lt_trans (byte_lt d) (by omega))) h
  rw [Nat.xor_comm r, Nat.xor_comm r] at h1
  exact UInt8.toNat_inj.1 (xor_cancel h1)
theorem crc_set {r : Nat} (hr : r < 4294967296) (bs : List UInt8) (j : Nat) (c : UInt8) (hj : j < bs.length) (hc : c ≠ bs[j]) : crc r (bs.set j c) ≠ crc r bs := by
  intro h
  have e2 : bs = bs.take j ++ bs[j] :: bs.drop (j + 1) := by simp
  have e1 : bs.set j c = bs.take j ++ c :: bs.drop (j + 1) := by rw [List.set_eq_take_append_cons_drop, if_pos hj]
  rw [e1] at h
  conv at h => rhs; rw [e2]
  rw [crc_append, crc_append] at h
  have hl : crc r (bs.take j) < 4294967296 := crc_lt _ hr
  have h2 := crc_inj (bs.drop (j + 1)) (crcByte_lt c hl) (crcByte_lt bs[j] hl) h
  exact hc (crcByte_diff hl h2)
theorem sumF_set (bs : List UInt8) (j : Nat) (c : UInt8) (hj : j < bs.length) (hc : c ≠ bs[j]) : sumF (bs.set j c) ≠ sumF bs := by
  have h := crc_set (r := 4294967295) (by omega) bs j c hj hc
  have h1 := crc_lt bs (r := 4294967295) (by omega)
  have h2 := crc_lt (bs.set j c) (r := 4294967295) (by omega)
  unfold sumF
  omega

theorem num4_inj {a b c d a' b' c' d' : UInt8} (h : num4 a b c d = num4 a' b' c' d') : a = a' ∧ b = b' ∧ c = c' ∧ d = d' := by
  have := byte_lt a
  have := byte_lt b
  have := byte_lt c
  have := byte_lt d
  have := byte_lt a'
  have := byte_lt b'
  have := byte_lt c'
  have := byte_lt d'
  unfold num4 at h
  refine ⟨UInt8.toNat_inj.1 ?_, UInt8.toNat_inj.1 ?_, UInt8.toNat_inj.1 ?_, UInt8.toNat_inj.1 ?_⟩ <;> omega
theorem beNum_be4 (n : Nat) (hn : n < 4294967296) (rest : List UInt8) : beNum (be4 n ++ rest) = n := by
  show num4 (UInt8.ofNat (n / 16777216)) (UInt8.ofNat (n / 65536)) (UInt8.ofNat (n / 256)) (UInt8.ofNat n) = n
  unfold num4
  rw [ofNat_toNat, ofNat_toNat, ofNat_toNat, ofNat_toNat]
  omega
theorem num_set (x0 x1 x2 x3 c : UInt8) (j : Nat) (hj : j < 4) (rest : List UInt8) (hc : c ≠ [x0, x1, x2, x3][j]) : beNum ([x0, x1, x2, x3].set j c ++ rest) ≠ num4 x0 x1 x2 x3 := by
  intro h
  obtain rfl | rfl | rfl | rfl : j = 0 ∨ j = 1 ∨ j = 2 ∨ j = 3 := by omega
  · exact hc (num4_inj (a := c) (b := x1) (c := x2) (d := x3) h).1
  · exact hc (num4_inj (a := x0) (b := c) (c := x2) (d := x3) h).2.1
  · exact hc (num4_inj (a := x0) (b := x1) (c := c) (d := x3) h).2.2.1
  · exact hc (num4_inj (a := x0) (b := x1) (c := x2) (d := c) h).2.2.2
theorem beNum_set (n j : Nat) (hj : j < 4) (c : UInt8) (hn : n < 4294967296) (rest : List UInt8) (hc : c ≠ (be4 n)[j]'(by rw [be4_length]; exact hj)) : beNum ((be4 n).set j c ++ rest) ≠ n := by
  intro h
  exact num_set _ _ _ _ c j hj rest hc (h.trans (beNum_be4 n hn []).symm)

theorem next_damage (bs body : List UInt8) (t : Nat) (c : UInt8) (hm : body.length ≤ 1048576) (ht : t < 4 + body.length) (hc : c ≠ (bs ++ frameF body)[bs.length + 4 + t]'(by rw [List.length_append, frameF_length]; omega)) :
    nextF ((bs ++ frameF body).set (bs.length + 4 + t) c) (bs.length : Int) = ([], 0, 4) := by
  have hd : ((bs ++ frameF body).set (bs.length + 4 + t) c).drop bs.length = (frameF body).set (4 + t) c := by
    rw [List.set_append_right _ _ (by omega), List.drop_left, Nat.add_assoc, Nat.add_sub_cancel_left]
  have hc' : c ≠ (frameF body)[4 + t]'(by rw [frameF_length]; omega) := by
    rw [List.getElem_append_right (by omega)] at hc
    simpa [Nat.add_assoc, Nat.add_sub_cancel_left] using hc
  rw [nextF, if_neg (by rw [List.length_set, List.length_append]; omega), Int.toNat_natCast, hd]
  clear hd hc
  generalize hS : sumF (be4 body.length ++ body) = S
  have hSl : S < 4294967296 := by rw [← hS]; exact sumF_lt _
  have hfl : ((frameF body).set (4 + t) c).length = body.length + 8 := by rw [List.length_set, frameF_length]
  have hframe : frameF body = be4 body.length ++ (be4 S ++ body) := by rw [frameF, hS]
  by_cases h4 : t < 4
  · have e : (frameF body).set (4 + t) c = be4 body.length ++ ((be4 S).set t c ++ body) := by
      rw [hframe, List.set_append_right _ _ (by rw [be4_length]; omega), be4_length, Nat.add_sub_cancel_left, List.set_append_left _ _ (by rw [be4_length]; exact h4)]
    have hc2 : c ≠ (be4 S)[t]'(by rw [be4_length]; exact h4) := by
      simp only [hframe] at hc'
      rw [List.getElem_append_right (by rw [be4_length]; omega)] at hc'
      rw [List.getElem_append_left (by rw [be4_length, be4_length]; omega)] at hc'
      simpa [be4_length] using hc'
    simp only [hfl]
    rw [e, beNum_be4 _ (by omega), if_neg (by omega), if_neg (by omega), if_neg (by omega)]
    have e1 : (be4 body.length ++ ((be4 S).set t c ++ body)).drop 4 = (be4 S).set t c ++ body := List.drop_left' (by rw [be4_length])
    have e2 : (be4 body.length ++ ((be4 S).set t c ++ body)).take 4 = be4 body.length := List.take_left' (by rw [be4_length])
    have e3 : (be4 body.length ++ ((be4 S).set t c ++ body)).drop 8 = body := by
      rw [← List.append_assoc]; exact List.drop_left' (by simp [be4_length])
    rw [e1, e2, e3, List.take_of_length_le (by omega), hS, if_pos (beNum_set S t h4 c hSl body hc2)]
  · have e : (frameF body).set (4 + t) c = be4 body.length ++ (be4 S ++ body.set (t - 4) c) := by
      rw [hframe, List.set_append_right _ _ (by rw [be4_length]; omega), be4_length, Nat.add_sub_cancel_left, List.set_append_right _ _ (by rw [be4_length]; omega), be4_length]
    have hc2 : c ≠ body[t - 4]'(by omega) := by
      simp only [hframe] at hc'
      rw [List.getElem_append_right (by rw [be4_length]; omega)] at hc'
      rw [List.getElem_append_right (by rw [be4_length, be4_length]; omega)] at hc'
      simpa [be4_length] using hc'
    simp only [hfl]
    rw [e, beNum_be4 _ (by omega), if_neg (by omega), if_neg (by omega), if_neg (by omega)]
    have e1 : (be4 body.length ++ (be4 S ++ body.set (t - 4) c)).drop 4 = be4 S ++ body.set (t - 4) c := List.drop_left' (by rw [be4_length])
    have e2 : (be4 body.length ++ (be4 S ++ body.set (t - 4) c)).take 4 = be4 body.length := List.take_left' (by rw [be4_length])
    have e3 : (be4 body.length ++ (be4 S ++ body.set (t - 4) c)).drop 8 = body.set (t - 4) c := by
      rw [← List.append_assoc]; exact List.drop_left' (by simp [be4_length])
    rw [e1, e2, e3, List.take_of_length_le (by simp), beNum_be4 S hSl]
    have hne : S ≠ sumF (be4 body.length ++ body.set (t - 4) c) := by
      have hh := sumF_set (be4 body.length ++ body) (4 + (t - 4)) c (by rw [List.length_append, be4_length]; omega) (by
        rw [List.getElem_append_right (by rw [be4_length]; omega)]
        simpa [be4_length] using hc2)
      rw [List.set_append_right _ _ (by rw [be4_length]; omega), be4_length, Nat.add_sub_cancel_left, hS] at hh
      exact fun x => hh x.symm
    rw [if_pos hne]
end Go.Proofs.Ytfmjlkgbaanlhaa
