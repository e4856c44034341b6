/-
  The reference's Next and Len answer as frame's do.
-/
import Derived.Test.YtfmjlkgbaanlhaaFrLaws
import Derived.Deep.RegionLaw
import Derived.Deep.DeepCutAuto
namespace Go.Proofs.Ytfmjlkgbaanlhaa
open Go.RowKit
set_option linter.unusedVariables false
set_option linter.unusedSimpArgs false

set_option maxHeartbeats 400000 in
theorem refLen_any (x : Int) (w : World) (h63 : x ≤ 9223372036854775807) (h64 : -9223372036854775808 ≤ x) :
    Calls Try.prog 16 #[.int .i64 x] w fun e w' => e = .returned (.int .i64 (if x < 0 ∨ 1048576 < x then 0 else x + 8)) ∧ w = w' := by
  by_cases h0 : x < 0
  · rw [if_pos (.inl h0)]
    go_enter Try.func16, Try.ntmps16
    go_wp2_with fail
    go_ret
    exact ⟨rfl, rfl⟩
  · by_cases h1 : 1048576 < x
    · rw [if_pos (.inr h1)]
      go_enter Try.func16, Try.ntmps16
      go_wp2_with fail
      go_ret
      exact ⟨rfl, rfl⟩
    · rw [if_neg (by omega)]
      go_enter Try.func16, Try.ntmps16
      go_wp2_with fail
      go_ret
      exact ⟨rfl, rfl⟩

set_option maxHeartbeats 400000 in
theorem refNext_range (A : Option Addr) (n c : Nat) (bs : List UInt8) (at_ : Int) (w : World) (h : Bytes w w.heap.size A n bs) (hn : n ≤ 9223372036854775807) (ha : at_ < 0 ∨ (n : Int) < at_) (h63 : at_ ≤ 9223372036854775807) (h64 : -9223372036854775808 ≤ at_) :
    Calls Try.prog 18 #[.slice A n c, .int .i64 at_] w (NextPost w (nextF bs at_)) := by
  have e : nextF bs at_ = ([], 0, 6) := by rw [nextF, if_pos (by rw [h.len]; exact ha)]
  rw [e]
  by_cases h0 : at_ < 0
  all_goals
    go_enter Try.func18, Try.ntmps18
    go_wp2_with fail
    go_ret3
    exact NextPost.none_ _ _ _ (Below.refl _ _)

set_option maxHeartbeats 400000 in
theorem refNext_short (A : Option Addr) (n c k : Nat) (bs : List UInt8) (w : World) (h : Bytes w w.heap.size A n bs) (hn : n ≤ 9223372036854775807) (hk : k ≤ n) (h8 : n < k + 8) (hc : n ≤ c) :
    Calls Try.prog 18 #[.slice A n c, .int .i64 (k : Int)] w (NextPost w (nextF bs (k : Int))) := by
  have e : nextF bs (k : Int) = ([], 0, 2) := by
    rw [nextF, if_neg (by rw [h.len]; omega)]
    simp only [List.length_drop, h.len, Int.toNat_natCast]
    rw [if_pos (by omega)]
  rw [e]
  go_enter Try.func18, Try.ntmps18
  go_wp2_with fail
  go_ret3
  exact NextPost.none_ _ _ _ (Below.refl _ _)

theorem slice_lh (b off len cap lo hi o' n' c' : Nat) (x y : Int) (hx : x = (lo : Int)) (hy : y = (hi : Int)) (h1 : lo ≤ hi) (h2 : hi ≤ cap) (hne : ¬ cap = lo) (e1 : off + lo = o') (e2 : hi - lo = n') (e3 : cap - lo = c') (w : World) :
    (Instr.slice 22 (.slice (some ⟨b, off, none⟩) len cap) (some (.int .i64 x)) (some (.int .i64 y)) none).run Try.prog w = .ok (.slice (some ⟨b, o', none⟩) n' c') w := by
  subst hx hy e1 e2 e3
  obtain ⟨i0, hi0, hz0, hz1, hz2⟩ := info_parts info_u8
  have he : Try.prog.elem 22 = 5 := by kernel_rfl
  have hu : Try.prog.underlying 22 = some (.slice (Try.prog.elem 22)) := by rw [he]; exact Try.underlying22
  rw [run_slice_lh w _ _ _ _ hu .i64 .i64 _ _ (by omega) (by omega) (by omega), he]
  simp only [sizeOf, typeInfo, Sem.run_bind, Int.toNat_natCast]
  simp [hi0, hz1, sliced, hne, Addr.add]

theorem wpList_slice_lh {ops : Array Oper} {rest : List Oper} {o : Oper} {a : Act} {w : World} {Q : Exit → Act → World → Prop} (hgd : o.guard = none) (x l h : Operand) (ho : o.op = .slice 22 x (some l) (some h) none)
    (b off len cap lo hi o' n' c' : Nat) (xl xh : Int) (hx : a.eval x = .slice (some ⟨b, off, none⟩) len cap) (hl : a.eval l = .int .i64 xl) (hh : a.eval h = .int .i64 xh) (e0 : xl = (lo : Int)) (e0' : xh = (hi : Int)) (h1 : lo ≤ hi) (h2 : hi ≤ cap) (hne : ¬ cap = lo) (e1 : off + lo = o') (e2 : hi - lo = n') (e3 : cap - lo = c')
    (hk : wpList Try.prog ops Q rest (a.put o.dst (.slice (some ⟨b, o', none⟩) n' c')) w) : wpList Try.prog ops Q (o :: rest) a w := by
  refine wpList_plain hgd fun K hK => ?_
  have hrun := slice_lh b off len cap lo hi o' n' c' xl xh e0 e0' h1 h2 hne e1 e2 e3 w
  have hu : Try.prog.underlying 22 = some (.slice (Try.prog.elem 22)) := by kernel_rfl
  unfold Oper.wp
  simp [execOp, ho, hx, hl, hh, run_sliceAt_slice, hu, hrun, Result.andThen]
  exact hK _ _ hk

theorem slice_end (b off len cap n' c' : Nat) (hn' : n' = 0) (hc' : c' = 0) (x y : Int) (hx : x = (cap : Int)) (hy : y = (cap : Int)) (w : World) :
    (Instr.slice 22 (.slice (some ⟨b, off, none⟩) len cap) (some (.int .i64 x)) (some (.int .i64 y)) none).run Try.prog w = .ok (.slice (some ⟨b, off, none⟩) n' c') w := by
  subst hx hy hn' hc'
  obtain ⟨i0, hi0, hz0, hz1, hz2⟩ := info_parts info_u8
  have he : Try.prog.elem 22 = 5 := by kernel_rfl
  have hu : Try.prog.underlying 22 = some (.slice (Try.prog.elem 22)) := by rw [he]; exact Try.underlying22
  rw [run_slice_lh w _ _ _ _ hu .i64 .i64 _ _ (by omega) (by omega) (by omega), he]
  simp only [sizeOf, typeInfo, Sem.run_bind, Int.toNat_natCast]
  simp [hi0, hz1, sliced]
theorem wpList_slice_end {ops : Array Oper} {rest : List Oper} {o : Oper} {a : Act} {w : World} {Q : Exit → Act → World → Prop} (hgd : o.guard = none) (x l h : Operand) (ho : o.op = .slice 22 x (some l) (some h) none)
    (b off len cap n' c' : Nat) (hn' : n' = 0) (hc' : c' = 0) (xl xh : Int) (hx : a.eval x = .slice (some ⟨b, off, none⟩) len cap) (hl : a.eval l = .int .i64 xl) (hh : a.eval h = .int .i64 xh) (e0 : xl = (cap : Int)) (e0' : xh = (cap : Int))
    (hk : wpList Try.prog ops Q rest (a.put o.dst (.slice (some ⟨b, off, none⟩) n' c')) w) : wpList Try.prog ops Q (o :: rest) a w := by
  refine wpList_plain hgd fun K hK => ?_
  have hrun := slice_end b off len cap n' c' hn' hc' xl xh e0 e0' w
  have hu : Try.prog.underlying 22 = some (.slice (Try.prog.elem 22)) := by kernel_rfl
  unfold Oper.wp
  simp [execOp, ho, hx, hl, hh, run_sliceAt_slice, hu, hrun, Result.andThen]
  exact hK _ _ hk

set_option maxHeartbeats 1000000 in
theorem refNext_rest (b off p q k : Nat) (bs : List UInt8) (w : World) (h : Bytes w w.heap.size (some ⟨b, off, none⟩) (k + p) bs) (hn : k + p ≤ 9223372036854775807) (h8 : 8 ≤ p) (hc : p ≤ q) :
    Calls Try.prog 18 #[.slice (some ⟨b, off, none⟩) (k + p) (k + q), .int .i64 (k : Int)] w (NextPost w (nextF bs (k : Int))) := by
  have hf := h.rest k (by omega)
  rw [Nat.add_sub_cancel_left] at hf
  have en : nextF bs (k : Int) = if 1048576 < beNum (bs.drop k) then ([], 0, 5)
    else if p < 8 + beNum (bs.drop k) then ([], 0, 2)
    else if beNum (((bs.drop k).drop 4).take 4) ≠ sumF ((bs.drop k).take 4 ++ ((bs.drop k).drop 8).take (beNum (bs.drop k))) then ([], 0, 4)
    else (((bs.drop k).drop 8).take (beNum (bs.drop k)), (k : Int) + 8 + beNum (bs.drop k), 0) := by
    have e4 : beNum (((bs.drop k).drop 4).take 4) = beNum ((bs.drop k).drop 4) := by simp [beNum, List.getD, List.getElem?_take]
    rw [nextF, if_neg (by rw [h.len]; omega)]
    simp only [List.length_drop, h.len, Int.toNat_natCast, Nat.add_sub_cancel_left, e4]
    rw [if_neg (by omega)]
  have e0 : beNum ((bs.drop k).take 4) = beNum (bs.drop k) := by simp [beNum, List.getD, List.getElem?_take]
  clear h
  generalize nextF bs (k : Int) = r at *
  generalize bs.drop k = f at *
  have hN := beNum_lt f
  have h4 := hf.part 4 4 (by omega)
  have h04 := hf.part 0 4 (by omega)
  rw [Nat.add_zero, List.drop_zero] at h04
  generalize hNN : beNum f = N at *
  have HN := Lib.hid e0
  have HR := Lib.hid en
  clear hNN en e0
  go_enter Try.func18, Try.ntmps18
  go_wp2_with fail
  refine (number_any _ _ _ w.heap.size _ w h04 (by omega)).mono ?_
  rintro e w1 ⟨rfl, m1, rfl⟩
  rw [HN.out]
  by_cases hbig : 1048576 < N
  · have hr : r = ([], 0, 5) := by rw [HR.out, if_pos hbig]
    subst hr
    go_wp2_with fail
    go_ret3
    exact NextPost.none_ _ _ _ (below_drewN (Below.refl _ _) _)
  · by_cases hlong : p < 8 + N
    · have hr : r = ([], 0, 2) := by rw [HR.out, if_neg hbig, if_pos hlong]
      subst hr
      go_wp2_with fail
      go_ret3
      exact NextPost.none_ _ _ _ (below_drewN (Below.refl _ _) _)
    · have d1 : decide ((1048576 : Int) < (N : Int)) = false := decide_eq_false (by omega)
      have hb1 : Below w.heap.size w (w.drewN m1) := below_drewN (Below.refl _ _) _
      have h8N := (hf.part 8 N (by omega)).drewN m1
      replace h4 := h4.drewN m1
      replace h04 := h04.drewN m1
      generalize w.drewN m1 = w1 at h4 h04 h8N hb1 ⊢
      have hown0 : Own (w1.alloc (.cells #[] 5)) w1.heap.size (.slice (some ⟨w1.heap.size, 0, none⟩) 0 0) 0 [] := Own.of_BB (BB.new w1 []) (Nat.le_refl _) rfl (by decide)
      have hb2 : Below w1.heap.size w1 (w1.alloc (.cells #[] 5)) := (Below.refl _ _).alloc (Nat.le_refl _) _
      rw [Nat.add_assoc] at h4
      have hq0 : ¬ q = 0 := by omega
      have hq4 : ¬ q = 4 := by omega
      go_upto_region 10 with (fail)
      by_cases hq : q = 8
      · subst hq
        have hNz : N ≤ 0 := by omega
        iterate 25 (first | go_values | go_skip | go_guarded | go_step | go_upon)
        with_reducible refine wpList_slice_end rfl (.tmp 39) (.tmp 41) (.tmp 45) rfl b off (k + p) (k + 8) N 0 ?a0 rfl ((k : Int) + 8) ((k : Int) + 8 + (N : Int)) rfl rfl rfl ?a1 ?a2 ?_
        case a0 => omega
        case a1 => omega
        case a2 => omega
        refine wpList_append_bytes _ rfl (.tmp 38) (.tmp 46) rfl rfl w1.heap.size 0 (.slice (some ⟨w1.heap.size, 0, none⟩) 0 0) [] rfl hown0 w.heap.size (some ⟨b, off, none⟩) N 0 ((f.drop 8).take N) rfl ?src ?len ?base ?_
        case src =>
          have hN0 : N = 0 := by omega
          rw [hN0]
          exact Bytes.nil _ _ _
        case len => omega
        case base => simp
        intro v2 w2 hown2 hg2 hat2
        rw [Nat.zero_add, List.nil_append] at hown2
        replace hb2 : Below w1.heap.size w1 w2 := hb2.grown hg2 hb2.size (by simp [Value.ownBlock])
        obtain ⟨A2, c2, hv2, hc2, hm2, hx2⟩ := hown2.form
        subst hv2
        have hfr2 : ∀ ad, A2 = some ad → w1.heap.size ≤ ad.block := fun ad e => (hown2.lt ad.block (by rw [e]; rfl)).1
        have HFR := Lib.hid hfr2
        clear hown2 hg2 hat2 hown0 hm2 hfr2
        have hbw : Below w.heap.size w w2 := hb1.trans (hb2.mono hb1.size)
        replace h4 := h4.below (hb2.mono hb1.size)
        replace h04 := h04.below (hb2.mono hb1.size)
        have hlb := Lib.hid hx2.len
        generalize hbody : (f.drop 8).take N = body at *
        have HBody := Lib.hid hbody
        clear hbody
        go_wp2_with fail
        have b1 : 0 + 4 ≤ 140737488355328 := by omega
        have b2 : 4 + N ≤ 140737488355328 := by omega
        have b3 : 4 + N ≤ 9223372036854775807 := by omega
        have B1 := Lib.hid b1
        have B2 := Lib.hid b2
        have B3 := Lib.hid b3
        clear b1 b2 b3
        have q1 : IntKind.i64.wrap ((k : Int) + 4) = (k : Int) + 4 := IntWalk.i64_in _ (by omega)
        have q2 : IntKind.i64.wrap ((k : Int) + 8) = (k : Int) + 8 := IntWalk.i64_in _ (by omega)
        have q3 : (0 : Int) ≤ (k : Int) := by omega
        have q4 : (k : Int) ≤ (k : Int) + 4 := by omega
        have q5 : (k : Int) + 4 ≤ (k : Int) + 8 := by omega
        have q6 : (k : Int) + 4 ≤ (k : Int) + 8 := by omega
        have q7 : (k : Int) + 8 ≤ (k : Int) + 8 := by omega
        have q8 : ((k : Int) + 4).toNat = k + 4 := by omega
        have q9 : ((k : Int) + 8).toNat = k + 8 := by omega
        have q10 : (0 : Int) ≤ (k : Int) + 4 := by omega
        have hown3 : Own (w2.alloc (.cells #[] 5)).drew w2.heap.size (.slice (some ⟨w2.heap.size, 0, none⟩) 0 0) 0 [] := (Own.of_BB (BB.new w2 []) (Nat.le_refl _) rfl (by decide)).drew
        have hs3 : Bytes (w2.alloc (.cells #[] 5)).drew w.heap.size (some ⟨b, off + k, none⟩) 4 (f.take 4) := (h04.alloc hbw.size _).drew
        have hb3 : Below w2.heap.size w2 (w2.alloc (.cells #[] 5)).drew := ((Below.refl _ _).alloc (Nat.le_refl _) _).drew
        clear h04
        go_region_law (first | (refine step_append_bytes _ rfl (.tmp 48) (.tmp 53) rfl rfl w2.heap.size 0 (.slice (some ⟨w2.heap.size, 0, none⟩) 0 0) [] rfl hown3 w.heap.size _ 4 _ (f.take 4) rfl hs3 B1.out (by simp) ?_; intro v4 w4 hown4 hg4 hat4; have hb4 : Below w2.heap.size w2 w4 := hb3.grown hg4 hb3.size (by simp [Value.ownBlock]); clear hown3 hs3 hb3 hg4 hat4; have hx24 := hx2.below hb4; have hat4 : ∀ k, v4.ownBlock = some k → w2.heap.size ≤ k := fun k hk => (hown4.lt k hk).1) | (refine step_append_bytes _ rfl (.tmp 54) (.tmp 55) rfl rfl w2.heap.size 4 v4 (f.take 4) rfl hown4 w2.heap.size A2 N c2 body rfl hx24 B2.out hb4.size ?_; intro v5 w5 hown5 hg5 hat5; have hb5 : Below w2.heap.size w2 w5 := hb4.grown hg5 hb4.size hat4; clear hown4 hb4 hg5 hat5 hat4 hx24; obtain ⟨A5, c5, hv5, hc5, hm5, hx5⟩ := hown5.form; subst hv5; clear hown5; have h45 := h4.below (hb5.mono hbw.size)) | (go_simp; go_at_call 10; refine (refSum_any _ _ _ _ _ _ hx5 B3.out).mono ?_; rintro e w' ⟨rfl, rfl⟩) | (go_simp; go_at_call 30; refine (number_any _ _ _ w.heap.size _ _ h45 (Nat.le_refl 4)).mono ?_; rintro e w6 ⟨rfl, m6, rfl⟩))
        clear q1 q2 q3 q4 q5 q6 q7 q8 q9 q10
        generalize hX : beNum ((f.drop 4).take 4) = X
        generalize hY : sumF (f.take 4 ++ body) = Y
        have HX := Lib.hid hX
        have HY := Lib.hid hY
        have hxf := (hx2.below hb5).more (Nat.le_trans hb5.size (Nat.le_refl (w5.drewN m6).heap.size))
        have hbf : Below w.heap.size w (w5.drewN m6) := below_drewN (hbw.trans (hb5.mono hbw.size)) _
        replace hxf := hxf.drewN m6
        clear hX hY h4 h45 hx5 hb5 hx2
        generalize w5.drewN m6 = w7 at hxf hbf ⊢
        by_cases hcs : Y = X
        · have hr : r = (body, (k : Int) + 8 + N, 0) := by rw [HR.out, if_neg hbig, if_neg hlong, HX.out, HY.out, if_neg (fun h => h hcs.symm)]
          have t1 : ((Y : Int) != (X : Int)) = false := by simp [hcs]
          have t2 : ((Y : Int) == (X : Int)) = true := by simp [hcs]
          subst hr
          have HC := Lib.hid hcs
          clear hcs
          go_wp2_with fail
          go_ret3
          exact ⟨A2, c2, by rw [hlb.out]; rfl, by rw [hlb.out]; exact hxf, by rw [hlb.out]; exact hc2, hbf, fun ad e => Nat.le_trans hb1.size (HFR.out ad e)⟩
        · have hr : r = ([], 0, 4) := by rw [HR.out, if_neg hbig, if_neg hlong, HX.out, HY.out, if_pos (fun h => hcs h.symm)]
          have t1 : ((Y : Int) != (X : Int)) = true := by simp; omega
          have t2 : ((Y : Int) == (X : Int)) = false := by simp; omega
          subst hr
          have HC := Lib.hid hcs
          clear hcs
          go_wp2_with fail
          go_ret3
          exact NextPost.none_ _ _ _ hbf
      · skip
        iterate 25 (first | go_values | go_skip | go_guarded | go_step | go_upon)
        with_reducible refine wpList_slice_lh rfl (.tmp 39) (.tmp 41) (.tmp 45) rfl b off (k + p) (k + q) (k + 8) (k + 8 + N) (off + k + 8) N (q - 8) ((k : Int) + 8) ((k : Int) + 8 + (N : Int)) rfl rfl rfl ?a0 ?a1 ?a2 ?a3 ?a4 ?a5 ?a6 ?a7 ?_
        case a0 => omega
        case a1 => omega
        case a2 => omega
        case a3 => omega
        case a4 => omega
        case a5 => omega
        case a6 => omega
        case a7 => omega
        refine wpList_append_bytes _ rfl (.tmp 38) (.tmp 46) rfl rfl w1.heap.size 0 (.slice (some ⟨w1.heap.size, 0, none⟩) 0 0) [] rfl hown0 w.heap.size (some ⟨b, off + k + 8, none⟩) N (q - 8) ((f.drop 8).take N) rfl ?src ?len ?base ?_
        case src => exact h8N.alloc hb1.size _
        case len => omega
        case base => simp
        intro v2 w2 hown2 hg2 hat2
        rw [Nat.zero_add, List.nil_append] at hown2
        replace hb2 : Below w1.heap.size w1 w2 := hb2.grown hg2 hb2.size (by simp [Value.ownBlock])
        obtain ⟨A2, c2, hv2, hc2, hm2, hx2⟩ := hown2.form
        subst hv2
        have hfr2 : ∀ ad, A2 = some ad → w1.heap.size ≤ ad.block := fun ad e => (hown2.lt ad.block (by rw [e]; rfl)).1
        have HFR := Lib.hid hfr2
        clear hown2 hg2 hat2 hown0 hm2 hfr2
        have hbw : Below w.heap.size w w2 := hb1.trans (hb2.mono hb1.size)
        replace h4 := h4.below (hb2.mono hb1.size)
        replace h04 := h04.below (hb2.mono hb1.size)
        have hlb := Lib.hid hx2.len
        generalize hbody : (f.drop 8).take N = body at *
        have HBody := Lib.hid hbody
        clear hbody
        go_wp2_with fail
        have b1 : 0 + 4 ≤ 140737488355328 := by omega
        have b2 : 4 + N ≤ 140737488355328 := by omega
        have b3 : 4 + N ≤ 9223372036854775807 := by omega
        have B1 := Lib.hid b1
        have B2 := Lib.hid b2
        have B3 := Lib.hid b3
        clear b1 b2 b3
        have q1 : IntKind.i64.wrap ((k : Int) + 4) = (k : Int) + 4 := IntWalk.i64_in _ (by omega)
        have q2 : IntKind.i64.wrap ((k : Int) + 8) = (k : Int) + 8 := IntWalk.i64_in _ (by omega)
        have q3 : (0 : Int) ≤ (k : Int) := by omega
        have q4 : (k : Int) ≤ (k : Int) + 4 := by omega
        have q5 : (k : Int) + 4 ≤ (k : Int) + (q : Int) := by omega
        have q6 : (k : Int) + 4 ≤ (k : Int) + 8 := by omega
        have q7 : (k : Int) + 8 ≤ (k : Int) + (q : Int) := by omega
        have q8 : ((k : Int) + 4).toNat = k + 4 := by omega
        have q9 : ((k : Int) + 8).toNat = k + 8 := by omega
        have q10 : (0 : Int) ≤ (k : Int) + 4 := by omega
        have hown3 : Own (w2.alloc (.cells #[] 5)).drew w2.heap.size (.slice (some ⟨w2.heap.size, 0, none⟩) 0 0) 0 [] := (Own.of_BB (BB.new w2 []) (Nat.le_refl _) rfl (by decide)).drew
        have hs3 : Bytes (w2.alloc (.cells #[] 5)).drew w.heap.size (some ⟨b, off + k, none⟩) 4 (f.take 4) := (h04.alloc hbw.size _).drew
        have hb3 : Below w2.heap.size w2 (w2.alloc (.cells #[] 5)).drew := ((Below.refl _ _).alloc (Nat.le_refl _) _).drew
        clear h04
        go_region_law (first | (refine step_append_bytes _ rfl (.tmp 48) (.tmp 53) rfl rfl w2.heap.size 0 (.slice (some ⟨w2.heap.size, 0, none⟩) 0 0) [] rfl hown3 w.heap.size _ 4 _ (f.take 4) rfl hs3 B1.out (by simp) ?_; intro v4 w4 hown4 hg4 hat4; have hb4 : Below w2.heap.size w2 w4 := hb3.grown hg4 hb3.size (by simp [Value.ownBlock]); clear hown3 hs3 hb3 hg4 hat4; have hx24 := hx2.below hb4; have hat4 : ∀ k, v4.ownBlock = some k → w2.heap.size ≤ k := fun k hk => (hown4.lt k hk).1) | (refine step_append_bytes _ rfl (.tmp 54) (.tmp 55) rfl rfl w2.heap.size 4 v4 (f.take 4) rfl hown4 w2.heap.size A2 N c2 body rfl hx24 B2.out hb4.size ?_; intro v5 w5 hown5 hg5 hat5; have hb5 : Below w2.heap.size w2 w5 := hb4.grown hg5 hb4.size hat4; clear hown4 hb4 hg5 hat5 hat4 hx24; obtain ⟨A5, c5, hv5, hc5, hm5, hx5⟩ := hown5.form; subst hv5; clear hown5; have h45 := h4.below (hb5.mono hbw.size)) | (go_simp; go_at_call 10; refine (refSum_any _ _ _ _ _ _ hx5 B3.out).mono ?_; rintro e w' ⟨rfl, rfl⟩) | (go_simp; go_at_call 30; refine (number_any _ _ _ w.heap.size _ _ h45 (Nat.le_refl 4)).mono ?_; rintro e w6 ⟨rfl, m6, rfl⟩))
        clear q1 q2 q3 q4 q5 q6 q7 q8 q9 q10
        generalize hX : beNum ((f.drop 4).take 4) = X
        generalize hY : sumF (f.take 4 ++ body) = Y
        have HX := Lib.hid hX
        have HY := Lib.hid hY
        have hxf := (hx2.below hb5).more (Nat.le_trans hb5.size (Nat.le_refl (w5.drewN m6).heap.size))
        have hbf : Below w.heap.size w (w5.drewN m6) := below_drewN (hbw.trans (hb5.mono hbw.size)) _
        replace hxf := hxf.drewN m6
        clear hX hY h4 h45 hx5 hb5 hx2
        generalize w5.drewN m6 = w7 at hxf hbf ⊢
        by_cases hcs : Y = X
        · have hr : r = (body, (k : Int) + 8 + N, 0) := by rw [HR.out, if_neg hbig, if_neg hlong, HX.out, HY.out, if_neg (fun h => h hcs.symm)]
          have t1 : ((Y : Int) != (X : Int)) = false := by simp [hcs]
          have t2 : ((Y : Int) == (X : Int)) = true := by simp [hcs]
          subst hr
          have HC := Lib.hid hcs
          clear hcs
          go_wp2_with fail
          go_ret3
          exact ⟨A2, c2, by rw [hlb.out]; rfl, by rw [hlb.out]; exact hxf, by rw [hlb.out]; exact hc2, hbf, fun ad e => Nat.le_trans hb1.size (HFR.out ad e)⟩
        · have hr : r = ([], 0, 4) := by rw [HR.out, if_neg hbig, if_neg hlong, HX.out, HY.out, if_pos (fun h => hcs h.symm)]
          have t1 : ((Y : Int) != (X : Int)) = true := by simp; omega
          have t2 : ((Y : Int) == (X : Int)) = false := by simp; omega
          subst hr
          have HC := Lib.hid hcs
          clear hcs
          go_wp2_with fail
          go_ret3
          exact NextPost.none_ _ _ _ hbf
end Go.Proofs.Ytfmjlkgbaanlhaa
