/-
  frame.Append of any bytes and a body of at most 2^20 bytes: the bytes, followed by the frame of the body, in a new block.
-/
import Derived.Test.YtfmjlkgbaanlhaaFrMem
import Derived.StillTailTactics
namespace Go.Proofs.Ytfmjlkgbaanlhaa
open Go.RowKit
set_option linter.unusedVariables false
set_option linter.unusedSimpArgs false

def frameF (body : List UInt8) : List UInt8 := be4 body.length ++ (be4 (sumF (be4 body.length ++ body)) ++ body)
theorem be4_length (n : Nat) : (be4 n).length = 4 := rfl
theorem frameF_length (body : List UInt8) : (frameF body).length = body.length + 8 := by simp [frameF, be4_length]; omega
theorem info_u8 : (Try.prog.info? 5).map (fun i => (i.zero, i.size, i.bytes)) = some (some (.int .u8 0), 1, 1) := by kernel_rfl
theorem size_u8 : (Try.prog.info? 5).map (·.size) = some 1 := by kernel_rfl

def zeros (n : Nat) : List UInt8 := List.replicate n 0
theorem zeros_length (n : Nat) : (zeros n).length = n := by simp [zeros]
theorem splice_bv (a b : List UInt8) (k : Nat) : splice (bv a) k (bv b) = bv (splice a k b) := by simp [splice, bv, List.map_take, List.map_drop]
theorem Bytes.src {w : World} {B n : Nat} {A : Option Addr} {bs : List UInt8} (h : Bytes w B A n bs) (hp : 0 < (bv bs).length) : ∃ ad, A = some ad ∧ ∀ j v, (bv bs)[j]? = some v → w.cell? (ad.add j) = some v := by
  have hl := h.len
  rw [bv_length] at hp
  obtain ⟨b, off, e, _, hc⟩ := h.at_ (by omega)
  refine ⟨_, e, fun j v hv => ?_⟩
  have hj : j < bs.length := by
    rcases Nat.lt_or_ge j bs.length with h | h
    · exact h
    · rw [List.getElem?_eq_none (by rw [bv_length]; exact h)] at hv; cases hv
  rw [bv_at bs j hj] at hv
  rw [← hv, show (Addr.add ⟨b, off, none⟩ j) = ⟨b, off + j, none⟩ from by simp [Addr.add]]
  exact hc j hj
theorem BB.of_row {w : World} {g k : Nat} {a b : List UInt8} (h : w.heap[g]? = some (.cells (splice (bv a) k (bv b)).toArray 5 (0, 0))) : BB w g (splice a k b) := by
  rw [splice_bv] at h; exact h

/-- 'make([]byte, n)' in a new block of zeros -/
theorem make_bytes (n : Nat) (x : Int) (hx : x = (n : Int)) (hn : n ≤ 281474976710656) (u : World) : (Instr.makeSlice 22 (.int .i64 x) (.int .i64 x)).run Try.prog u =
      .ok (.slice (some ⟨u.heap.size, 0, none⟩) n n) (u.alloc (.cells (bv (zeros n)).toArray 5)) := by
  subst hx
  obtain ⟨i0, hi, hz0, hz1, hz2⟩ := info_parts info_u8
  have h := run_make (P := Try.prog) u 22 5 i0 (.int .u8 0) Try.underlying22 hi hz0 .i64 .i64 (n : Int) (n : Int) (by omega) (Int.le_refl _) (by rw [hz2]; omega) (by omega)
  rw [h, hz1]
  have e : (madeCells #[Value.int .u8 0] n) = (bv (zeros n)).toArray := by
    apply Array.ext_getElem?
    intro i
    by_cases hi : i < n <;> simp [madeCells, bv, zeros, hi, Nat.mod_one]
  simp [Value.cells, e]

theorem four_splices (z a b d e : List UInt8) (n : Nat) (hz : z.length = n + 8 + e.length) (ha : a.length = n) (hb : b.length = 4) (hd : d.length = 4) :
    splice (splice (splice (splice z 0 a) n b) (n + 4) d) (n + 8) e = a ++ (b ++ (d ++ e)) := by
  have key : ∀ (p x s : List UInt8) (k : Nat), p.length = k → x.length ≤ s.length → splice (p ++ s) k x = (p ++ x) ++ s.drop x.length := by
    intro p x s k hk _
    subst hk
    simp [splice, List.drop_append]
  have h1 : splice z 0 a = a ++ z.drop n := by simp [splice, ha]
  rw [h1, key a b _ n ha (by simp; omega), key (a ++ b) d _ (n + 4) (by simp; omega) (by simp; omega), key (a ++ b ++ d) e _ (n + 8) (by simp; omega) (by simp; omega)]
  simp [List.drop_drop, hb, hd]
  omega

set_option maxHeartbeats 400000 in
theorem Append_any (A A2 : Option Addr) (n c m c2 : Nat) (bs bs2 : List UInt8) (w : World) (h : Bytes w w.heap.size A n bs) (h2 : Bytes w w.heap.size A2 m bs2) (hn : n ≤ 140737488355328) (hm : m ≤ 1048576) :
    Calls Try.prog 12 #[.slice A n c, .slice A2 m c2] w fun e w' => e = .returned (.tuple #[.slice (some ⟨w.heap.size, 0, none⟩) (n + 8 + m) (n + 8 + m), .int .i64 0]) ∧ BB w' w.heap.size (bs ++ frameF bs2) ∧ Below w.heap.size w w' := by
  have hmk := make_bytes (n + 8 + m) ((n : Int) + 8 + (m : Int)) (by omega) (by omega)
  go_enter Try.func12, Try.ntmps12
  go_wp2_with (with_reducible refine wpList_copy_splice rfl (.tmp 18) (.tmp 19) 22 22 rfl 5 Try.underlying22 size_u8 (some ⟨w.heap.size, 0, none⟩) A (n + 8 + m) (n + 8 + m) n c rfl rfl w.heap.size 0 (bv (zeros (n + 8 + m))) 5 ?hg (bv bs) ?hn ?hpos ?hfit (bv_one _) w.heap.size w ?hb (Nat.le_refl _) ?_)
  case hg => exact heap_alloc_new w _
  case hn => rw [bv_length, h.len]; exact (Nat.min_eq_left (by omega)).symm
  case hpos => exact fun hp => (h.alloc (Nat.le_refl _) _).src hp
  case hfit => rw [bv_length, bv_length, zeros_length, h.len]; omega
  case hb => exact (Below.refl _ _).alloc (Nat.le_refl _) _
  intro w1 HG1 hB1
  have hb1 := BB.of_row HG1.out
  clear HG1
  have hl1 : (splice (zeros (n + 8 + m)) 0 bs).length = n + 8 + m := by rw [length_splice _ _ _ (by rw [zeros_length, h.len]; omega), zeros_length]
  have HL1 := Lib.hid hl1
  clear hl1
  go_wp2_with fail
  refine (put_any w.heap.size n _ _ m w.heap.size _ w w1 (by omega) (by omega) hb1 (by rw [HL1.out]; omega) hB1 (Nat.le_refl _)).mono ?_
  rintro e w2 ⟨rfl, hb2, hB2⟩
  clear hb1 hB1
  go_wp2_with fail
  have hl2 : (splice (splice (zeros (n + 8 + m)) 0 bs) n (be4 m)).length = n + 8 + m := by rw [length_splice _ _ _ (by rw [HL1.out, be4_length]; omega), HL1.out]
  have HL2 := Lib.hid hl2
  clear hl2 HL1
  have hs1 := hb2.part (B := w2.heap.size) hb2.lt n 4 (by rw [HL2.out]; omega)
  have hs2 := (h2.below hB2).more hB2.size
  rw [show n + 8 + m - n = 8 + m from by omega]
  have q1 : (4 : Int) ≤ ((8 + m : Nat) : Int) := by omega
  have q2 : ¬ (8 + m = 4) := by omega
  have q3 : (4 : Int) ≤ 8 + (m : Int) := by omega
  refine wp_region_still_tail 6 (by kernel_rfl) (by kernel_rfl) ?_
  simp only [List.take_succ_cons, List.take_zero, List.drop_succ_cons, List.drop_zero]
  repeat still_step
  refine wpStill_step (fun K hK => ?_)
  go_simp
  refine ⟨_, (sum_any _ _ _ _ _ _ w2.heap.size _ _ w2.drew hs1.drew (by omega) hs2.drew (by omega)).mono (fun _ _ h => ⟨h.1, h.2.symm⟩), hK _ ?_⟩
  clear hK K hs1 hs2
  refine wpStill_nil ?_
  change wpList _ _ _ _ _ w2.drew
  have hb3 : BB w2.drew w.heap.size (splice (splice (zeros (n + 8 + m)) 0 bs) n (be4 m)) := hb2
  have hB3 := hB2.drew
  clear hb2 hB2
  generalize w2.drew = w3 at hb3 hB3 ⊢
  have HS : Hid ((List.drop n (splice (splice (zeros (n + 8 + m)) 0 bs) n (be4 m))).take 4 = be4 m) := by
    show _ = _
    have e : (splice (zeros (n + 8 + m)) 0 bs).take n = bs := by simp [splice, ← h.len]
    rw [splice, e, ← h.len]
    simp [be4]
  rw [HS.out]
  generalize hS : sumF (be4 m ++ bs2) = S
  have HSum := Lib.hid hS
  clear hS HS
  have hSlt : S < 4294967296 := by rw [← HSum.out]; exact sumF_lt _
  go_wp2_with fail
  refine (put_any w.heap.size (n + 4) _ _ S w.heap.size _ w w3 (by omega) hSlt hb3 (by rw [HL2.out]; omega) hB3 (Nat.le_refl _)).mono ?_
  rintro e w4 ⟨rfl, hb4, hB4⟩
  clear hb3 hB3
  have hl4 : (splice (splice (splice (zeros (n + 8 + m)) 0 bs) n (be4 m)) (n + 4) (be4 S)).length = n + 8 + m := by rw [length_splice _ _ _ (by rw [HL2.out, be4_length]; omega), HL2.out]
  have HL4 := Lib.hid hl4
  clear hl4 HL2
  have hfin : splice (splice (splice (splice (zeros (n + 8 + m)) 0 bs) n (be4 m)) (n + 4) (be4 S)) (n + 8) bs2 = bs ++ frameF bs2 := by
    rw [frameF, h2.len, HSum.out]; exact four_splices _ _ _ _ _ _ (by rw [zeros_length, h2.len]) h.len rfl rfl
  have HF := Lib.hid hfin
  clear hfin
  have hs2 := (h2.below hB4).more hB4.size
  have q4 : (8 : Int) ≤ ((8 + m : Nat) : Int) := by omega
  by_cases hm0 : m = 0
  · subst hm0
    go_wp2_with (with_reducible refine wpList_copy_splice rfl (.tmp 38) (.tmp 39) 22 22 rfl 5 Try.underlying22 size_u8 (some ⟨w.heap.size, n, none⟩) A2 _ _ 0 c2 rfl rfl w.heap.size (n + 8) (bv (splice (splice (splice (zeros (n + 8 + 0)) 0 bs) n (be4 0)) (n + 4) (be4 S))) 5 ?hg (bv bs2) ?hn ?hpos ?hfit (bv_one _) w.heap.size w ?hb (Nat.le_refl _) ?_)
    case hg => exact hb4
    case hn => rw [bv_length, h2.len]; exact (Nat.min_eq_left (by omega)).symm
    case hpos => rw [bv_length, h2.len]; intro hp; omega
    case hfit => rw [bv_length, bv_length, HL4.out, h2.len]; omega
    case hb => exact hB4
    intro w5 HG5 hB5
    have hb5 := BB.of_row HG5.out
    rw [HF.out] at hb5
    clear HG5
    go_wp2_with fail
    go_ret2
    exact ⟨rfl, hb5, hB5⟩
  · have q5 : ¬ (8 + m = 8) := by omega
    have hml : 0 < m := by omega
    clear hm0
    go_wp2_with (with_reducible refine wpList_copy_splice rfl (.tmp 38) (.tmp 39) 22 22 rfl 5 Try.underlying22 size_u8 (some ⟨w.heap.size, n + 8, none⟩) A2 _ _ m c2 rfl rfl w.heap.size (n + 8) (bv (splice (splice (splice (zeros (n + 8 + m)) 0 bs) n (be4 m)) (n + 4) (be4 S))) 5 ?hg (bv bs2) ?hn ?hpos ?hfit (bv_one _) w.heap.size w ?hb (Nat.le_refl _) ?_)
    case hg => exact hb4
    case hn => rw [bv_length, h2.len]; exact (Nat.min_eq_left (by omega)).symm
    case hpos => exact fun hp => hs2.src hp
    case hfit => rw [bv_length, bv_length, HL4.out, h2.len]; omega
    case hb => exact hB4
    intro w5 HG5 hB5
    have hb5 := BB.of_row HG5.out
    rw [HF.out] at hb5
    clear HG5
    go_wp2_with fail
    go_ret2
    exact ⟨rfl, hb5, hB5⟩
end Go.Proofs.Ytfmjlkgbaanlhaa
