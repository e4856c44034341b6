/-
  frame.Next at any offset of any bytes.
-/
import Derived.Test.YtfmjlkgbaanlhaaFrAppend
namespace Go.Proofs.Ytfmjlkgbaanlhaa
open Go.RowKit
set_option linter.unusedVariables false
set_option linter.unusedSimpArgs false

/-- what is read at an offset: the body, the offset after the frame, the error -/
def nextF (bs : List UInt8) (at_ : Int) : List UInt8 × Int × Int :=
  if at_ < 0 ∨ (bs.length : Int) < at_ then ([], 0, 6)
  else
    let f := bs.drop at_.toNat
    if f.length < 8 then ([], 0, 2)
    else if 1048576 < beNum f then ([], 0, 5)
    else if f.length < 8 + beNum f then ([], 0, 2)
    else if beNum (f.drop 4) ≠ sumF (f.take 4 ++ (f.drop 8).take (beNum f)) then ([], 0, 4)
    else ((f.drop 8).take (beNum f), at_ + 8 + beNum f, 0)
def NextPost (w : World) (r : List UInt8 × Int × Int) (e : Ending) (w' : World) : Prop :=
  ∃ A c, e = .returned (.tuple #[.slice A r.1.length c, .int .i64 r.2.1, .int .i64 r.2.2]) ∧ Bytes w' w'.heap.size A r.1.length r.1 ∧ r.1.length ≤ c ∧ Below w.heap.size w w' ∧ ∀ ad, A = some ad → w.heap.size ≤ ad.block
theorem NextPost.none_ (w w' : World) (k : Int) (h : Below w.heap.size w w') : NextPost w ([], 0, k) (.returned (.tuple #[.slice none 0 0, .int .i64 0, .int .i64 k])) w' :=
  ⟨none, 0, rfl, Bytes.nil _ _ _, Nat.le_refl _, h, fun _ e => by cases e⟩

theorem splice_all (z bs : List UInt8) (h : z.length = bs.length) : splice z 0 bs = bs := by simp [splice, ← h]
theorem NextPost.found {w w' : World} {g N : Nat} {k : Int} {body : List UInt8} (hl : body.length = N) (hb : BB w' g (splice (zeros N) 0 body)) (h : Below w.heap.size w w') (hg : w.heap.size ≤ g) :
    NextPost w (body, k, 0) (.returned (.tuple #[.slice (some ⟨g, 0, none⟩) N N, .int .i64 k, .int .i64 0])) w' := by
  subst hl
  rw [splice_all _ _ (zeros_length _)] at hb
  exact ⟨_, body.length, rfl, hb.bytes hb.lt, Nat.le_refl _, h, fun _ e => by cases e; exact hg⟩

section
variable {w : World} {B n : Nat} {b off : Nat} {bs : List UInt8}
theorem Bytes.part (h : Bytes w B (some ⟨b, off, none⟩) n bs) (k m : Nat) (hm : k + m ≤ n) : Bytes w B (some ⟨b, off + k, none⟩) m ((bs.drop k).take m) :=
  ⟨by simp [h.len]; omega, fun hp => by
    obtain ⟨b', off', e, hb, hc⟩ := h.at_ (by omega)
    cases e
    refine ⟨b, off + k, rfl, hb, fun j hj => ?_⟩
    have hl : k + j < bs.length := by simp at hj; omega
    rw [Nat.add_assoc, hc (k + j) hl]; simp⟩
theorem Bytes.rest (h : Bytes w B (some ⟨b, off, none⟩) n bs) (k : Nat) (hk : k ≤ n) : Bytes w B (some ⟨b, off + k, none⟩) (n - k) (bs.drop k) := by
  have := h.part k (n - k) (by omega)
  rwa [List.take_of_length_le (by simp [h.len])] at this
end
theorem below_drewN {B : Nat} {a w : World} (h : Below B a w) (n : Nat) : Below B a (w.drewN n) := ⟨h.os, h.tape, h.output, h.size, h.block⟩

set_option maxHeartbeats 400000 in
theorem Next_range (A : Option Addr) (n c : Nat) (bs : List UInt8) (at_ : Int) (w : World) (h : Bytes w w.heap.size A n bs) (hn : n ≤ 9223372036854775807) (ha : at_ < 0 ∨ (n : Int) < at_) (h63 : at_ ≤ 9223372036854775807) (h64 : -9223372036854775808 ≤ at_) :
    Calls Try.prog 17 #[.slice A n c, .int .i64 at_] w (NextPost w (nextF bs at_)) := by
  have e : nextF bs at_ = ([], 0, 6) := by rw [nextF, if_pos (by rw [h.len]; exact ha)]
  rw [e]
  by_cases h0 : at_ < 0
  all_goals
    go_enter Try.func17, Try.ntmps17
    go_wp2_with fail
    go_ret3
    exact NextPost.none_ _ _ _ (Below.refl _ _)

set_option maxHeartbeats 400000 in
theorem Next_short (A : Option Addr) (n c k : Nat) (bs : List UInt8) (w : World) (h : Bytes w w.heap.size A n bs) (hn : n ≤ 9223372036854775807) (hk : k ≤ n) (h8 : n < k + 8) (hc : n ≤ c) :
    Calls Try.prog 17 #[.slice A n c, .int .i64 (k : Int)] w (NextPost w (nextF bs (k : Int))) := by
  have e : nextF bs (k : Int) = ([], 0, 2) := by
    rw [nextF, if_neg (by rw [h.len]; omega)]
    simp only [List.length_drop, h.len, Int.toNat_natCast]
    rw [if_pos (by omega)]
  rw [e]
  by_cases h0 : c = k
  all_goals
    go_enter Try.func17, Try.ntmps17
    go_wp2_with fail
    go_ret3
    exact NextPost.none_ _ _ _ (Below.refl _ _)

set_option maxHeartbeats 400000 in
theorem Next_rest (b off p q k : Nat) (bs : List UInt8) (w : World) (h : Bytes w w.heap.size (some ⟨b, off, none⟩) (k + p) bs) (hn : k + p ≤ 9223372036854775807) (h8 : 8 ≤ p) (hc : p ≤ q) :
    Calls Try.prog 17 #[.slice (some ⟨b, off, none⟩) (k + p) (k + q), .int .i64 (k : Int)] w (NextPost w (nextF bs (k : Int))) := by
  have hf := h.rest k (by omega)
  rw [Nat.add_sub_cancel_left] at hf
  have en : nextF bs (k : Int) = if 1048576 < beNum (bs.drop k) then ([], 0, 5)
    else if p < 8 + beNum (bs.drop k) then ([], 0, 2)
    else if beNum ((bs.drop k).drop 4) ≠ sumF ((bs.drop k).take 4 ++ ((bs.drop k).drop 8).take (beNum (bs.drop k))) then ([], 0, 4)
    else (((bs.drop k).drop 8).take (beNum (bs.drop k)), (k : Int) + 8 + beNum (bs.drop k), 0) := by
    rw [nextF, if_neg (by rw [h.len]; omega)]
    simp only [List.length_drop, h.len, Int.toNat_natCast, Nat.add_sub_cancel_left]
    rw [if_neg (by omega)]
  clear h
  generalize nextF bs (k : Int) = r at *
  generalize bs.drop k = f at *
  have hN := beNum_lt f
  have h4 := hf.rest 4 (by omega)
  have h04 := hf.part 0 4 (by omega)
  rw [Nat.add_zero, List.drop_zero] at h04
  generalize hNN : beNum f = N at *
  have HN := Lib.hid hNN
  have HR := Lib.hid en
  clear hNN en
  go_enter Try.func17, Try.ntmps17
  go_wp2_with fail
  refine (get_any _ _ _ w.heap.size f w hf (by omega)).mono ?_
  rintro e w1 ⟨rfl, m1, rfl⟩
  rw [HN.out]
  by_cases hbig : 1048576 < N
  · have hr : r = ([], 0, 5) := by rw [HR.out, if_pos hbig]
    subst hr
    go_wp2_with fail
    go_ret3
    exact NextPost.none_ _ _ _ (below_drewN (Below.refl _ _) _)
  · by_cases hlong : p < 8 + N
    · have hr : r = ([], 0, 2) := by rw [HR.out, if_neg hbig, if_pos hlong]
      subst hr
      go_wp2_with fail
      go_ret3
      exact NextPost.none_ _ _ _ (below_drewN (Below.refl _ _) _)
    · have h8N : Bytes w w.heap.size (if q = 8 then some ⟨b, off + k, none⟩ else some ⟨b, off + k + 8, none⟩) N ((f.drop 8).take N) := by
        have hl := hf.len
        split
        · obtain rfl : N = 0 := by omega
          exact Bytes.nil _ _ _
        · exact hf.part 8 N (by omega)
      have q1 : (4 : Int) ≤ (p : Int) := by omega
      have q2 : ¬ q = 4 := by omega
      have q3 : (4 : Int) ≤ (q : Int) := by omega
      have q4 : (8 : Int) ≤ 8 + (N : Int) := by omega
      have q5 : 8 + (N : Int) ≤ (q : Int) := by omega
      have q6 : IntKind.i64.wrap (8 + (N : Int)) = 8 + (N : Int) := IntWalk.i64_in _ (by omega)
      go_wp2_with fail
      have hb1 : Below w.heap.size w (w.drewN m1) := below_drewN (Below.refl _ _) _
      replace h4 := h4.drewN m1
      replace h04 := h04.drewN m1
      replace h8N := h8N.drewN m1
      generalize w.drewN m1 = w1 at h4 h04 h8N hb1 ⊢
      go_quiet ((first | (go_at_call 29; exact Calls.quiet_of (get_any _ _ _ w.heap.size _ _ (h4.drewN _) (by omega))) | (go_at_call 27; exact Calls.quiet_of_same ((sum_any _ _ _ _ _ _ w.heap.size _ _ _ (h04.drewN _) (by omega) (h8N.drewN _) (by omega)).mono (fun _ _ h => ⟨h.1, h.2.symm⟩)))))
      replace hb1 := below_drewN hb1 nq
      replace h8N := h8N.drewN nq
      generalize w1.drewN nq = w2 at hb1 h8N ⊢
      have H8P : 0 < N → Bytes w2 w.heap.size (some ⟨b, off + k + 8, none⟩) N ((f.drop 8).take N) := fun hp => by rw [if_neg (by omega)] at h8N; exact h8N
      generalize hX : beNum (f.drop 4) = X
      generalize hY : sumF (f.take 4 ++ (f.drop 8).take N) = Y
      have HX := Lib.hid hX
      have HY := Lib.hid hY
      clear hX hY h4 h04
      generalize (if q = 8 then some (⟨b, off + k, none⟩ : Addr) else some ⟨b, off + k + 8, none⟩) = A8 at h8N ⊢
      by_cases hcs : X = Y
      · have t1 : ((X : Int) != (Y : Int)) = false := by simp [hcs]
        have t2 : ((X : Int) == (Y : Int)) = true := by simp [hcs]
        have HC := Lib.hid hcs
        clear hcs
        have hr : r = ((f.drop 8).take N, (k : Int) + 8 + N, 0) := by rw [HR.out, if_neg hbig, if_neg hlong, if_neg (by rw [HX.out, HY.out]; exact fun h => h HC.out)]
        subst hr
        have hmk := make_bytes N (N : Int) rfl (by omega)
        have hl8 : ((f.drop 8).take N).length = N := h8N.len
        have HL8 := Lib.hid hl8
        generalize (f.drop 8).take N = body at *
        have h8s : ∀ o : Obj, 0 < (bv body).length → ∀ j v, (bv body)[j]? = some v → (w2.alloc o).cell? ⟨b, off + k + 8 + j, none⟩ = some v := by
          intro o hp j v hv
          rw [bv_length] at hp
          obtain ⟨ad, e, hc⟩ := ((H8P (by omega)).alloc hb1.size o).src (by rw [bv_length]; exact hp)
          cases e
          have h := hc j v hv
          rwa [show (Addr.add ⟨b, off + k + 8, none⟩ j) = ⟨b, off + k + 8 + j, none⟩ from by simp [Addr.add]] at h
        clear h8N hl8 H8P
        by_cases hq : q = 8
        · subst hq
          have hN0 : (bv body).length = 0 := by rw [bv_length, HL8.out]; omega
          have H0 := Lib.hid hN0
          clear hN0 h8s
          go_wp2_with (with_reducible refine wpList_copy_splice rfl (.tmp 50) (.tmp 52) 22 22 rfl 5 Try.underlying22 size_u8 (some ⟨w2.heap.size, 0, none⟩) _ N N _ _ rfl rfl w2.heap.size 0 (bv (zeros N)) 5 ?hg (bv body) ?hn ?hpos ?hfit (bv_one _) w.heap.size w ?hb hb1.size ?_)
          case hg => exact heap_alloc_new w2 _
          case hn => rw [bv_length, HL8.out]; exact (Nat.min_eq_right (by omega)).symm
          case hpos => intro hp; have := H0.out; omega
          case hfit => rw [bv_length, bv_length, HL8.out, zeros_length]; omega
          case hb => exact hb1.alloc hb1.size _
          intro w5 HG5 hB5
          have hb5 := BB.of_row HG5.out
          clear HG5
          go_wp2_with fail
          go_ret3
          refine NextPost.found HL8.out hb5 hB5 hb1.size
        · go_wp2_with (with_reducible refine wpList_copy_splice rfl (.tmp 50) (.tmp 52) 22 22 rfl 5 Try.underlying22 size_u8 (some ⟨w2.heap.size, 0, none⟩) _ N N _ _ rfl rfl w2.heap.size 0 (bv (zeros N)) 5 ?hg (bv body) ?hn ?hpos ?hfit (bv_one _) w.heap.size w ?hb hb1.size ?_)
          case hg => exact heap_alloc_new w2 _
          case hn => rw [bv_length, HL8.out]; exact (Nat.min_eq_right (by omega)).symm
          case hpos => exact h8s _
          case hfit => rw [bv_length, bv_length, HL8.out, zeros_length]; omega
          case hb => exact hb1.alloc hb1.size _
          intro w5 HG5 hB5
          have hb5 := BB.of_row HG5.out
          clear HG5
          go_wp2_with fail
          go_ret3
          refine NextPost.found HL8.out hb5 hB5 hb1.size
      · have t1 : ((X : Int) != (Y : Int)) = true := by simp; omega
        have t2 : ((X : Int) == (Y : Int)) = false := by simp; omega
        have hr : r = ([], 0, 4) := by rw [HR.out, if_neg hbig, if_neg hlong, if_pos (by rw [HX.out, HY.out]; exact hcs)]
        subst hr
        have HC := Lib.hid hcs
        clear hcs
        go_wp2_with fail
        all_goals
          go_ret3
          exact NextPost.none_ _ _ _ hb1
end Go.Proofs.Ytfmjlkgbaanlhaa
