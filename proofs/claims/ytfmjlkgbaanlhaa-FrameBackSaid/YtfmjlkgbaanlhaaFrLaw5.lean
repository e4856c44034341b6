/-
  The walk of the law FrameBack.
-/
import Derived.Test.YtfmjlkgbaanlhaaFrBack
import Derived.Test.YtfmjlkgbaanlhaaFrLaw4
namespace Go.Proofs.Ytfmjlkgbaanlhaa
open Go.RowKit
set_option linter.unusedVariables false
set_option linter.unusedSimpArgs false

theorem Lists.pre {w : World} {B n : Nat} {A : Option Addr} {l : List (List UInt8)} (h : Lists w B A n l) (k : Nat) (hk : k ≤ n) : Lists w B A k (l.take k) :=
  ⟨by simp [h.len]; omega, fun hp => by
    obtain ⟨b, off, e, hb, hc⟩ := h.at_ (by omega)
    refine ⟨b, off, e, hb, fun j hj => ?_⟩
    have hl : j < l.length := by simp at hj; omega
    have ej : (l.take k)[j] = l[j] := by simp
    simp only [ej]
    exact hc j hl⟩
theorem endsV_form {w : World} {base n : Nat} {v : Value} {l : List (List UInt8)} (h : w.ownsRow base 3 1 v n (endsV l n)) :
    ∃ A c, v = .slice A n c ∧ n ≤ c ∧ ∀ j, j < n → ∃ b off, A = some ⟨b, off, none⟩ ∧ w.cell? ⟨b, off + j, none⟩ = some (.int .i64 ((endF l (j + 1) : Nat) : Int)) := by
  rcases h.2 with ⟨rfl, rfl⟩ | ⟨g, cap, cur, rfl, hb, hh, hnc, hcm, hcs, ht⟩
  · exact ⟨none, 0, rfl, Nat.le_refl _, fun j hj => absurd hj (by omega)⟩
  · refine ⟨_, cap, rfl, hnc, fun j hj => ⟨g, 0, rfl, ?_⟩⟩
    rw [Nat.zero_add, cell_of_row w g j _ _ (0, 0) hh]
    have h1 : (cur.toList.take (n * 1))[j]? = some (.int .i64 ((endF l (j + 1) : Nat) : Int)) := by rw [ht]; simp [endsV, hj]
    rw [List.getElem?_take, if_pos (by omega)] at h1
    simpa using h1
def CountRel (l : List (List UInt8)) (k : Nat) (W E i : Value) : Prop := ∃ j a b : Nat, j ≤ l.length ∧ i = .int .i64 (j : Int) ∧ E = .int .i64 (b : Int) ∧ W = .int .i64 (a : Int) ∧ CountTo l k j a b

set_option maxHeartbeats 2000000 in
theorem frameBack_walk (A : Option Addr) (n c : Nat) (l : List (List UInt8)) (cut : Int) (w : World) (hli0 : Lists w w.heap.size A n l) (hn : n ≤ 140737488351232) (hin : ∀ b ∈ l, b.length ≤ 140737488351232) (hc : n ≤ c) (hc63 : c ≤ 9223372036854775807) :
    Calls Try.prog 8 #[.slice A n c, .int .i64 cut] w fun e w' => e = .returned (.bool true) ∧ Below w.heap.size w w' := by
  have c0 := Lib.hid (large_any A n c w.heap.size l w hli0 hn hin)
  by_cases hlar : 20000 < l.length + sumLen l
  · have e0 : largeB l = true := decide_eq_true hlar
    rw [e0] at c0
    clear e0 hlar hin
    go_enter Try.func8, Try.ntmps8
    go_wp2_with fail
    refine c0.out.mono ?_
    rintro e w1 ⟨rfl, rfl⟩
    go_wp2_with fail
    refine (works_true w).mono ?_
    rintro e w1 ⟨rfl, hb⟩
    go_wp2_with fail
    go_ret
    exact ⟨rfl, hb⟩
  · have e0 : largeB l = false := decide_eq_false hlar
    rw [e0] at c0
    have hB : ∀ b ∈ l, b.length ≤ 1048576 := fun b hb => by have := mem_sumLen hb; omega
    have HB := Lib.hid hB
    have hGle : (framesF l).length ≤ 1000000 := by
      have h1 := endF_sum l l.length (Nat.le_refl _)
      rw [endF_all, List.take_length] at h1
      omega
    have hall := scanned_within l (framesF l).length l.length hB (Nat.le_refl _) (Nat.le_refl _) (by rw [endF_all]; exact Nat.le_refl _) (fun h => absurd h (by omega))
    rw [List.take_length, List.take_length, endF_all] at hall
    have HAll := Lib.hid hall
    have CA := Lib.hid (appended_any A n c l w hli0 (by omega))
    obtain rfl : n = l.length := hli0.len.symm
    clear e0 hlar hin hB hall
    go_enter Try.func8, Try.ntmps8
    go_wp2_with fail
    refine c0.out.mono ?_
    rintro e w1 ⟨rfl, rfl⟩
    go_wp2_with fail
    refine CA.out.mono ?_
    rintro e w2 ⟨Ab, cb, v, rfl, hcb, hxb, hov, hb2⟩
    obtain ⟨Av, cv, hv, hcv, hi⟩ := endsV_form hov
    subst hv
    clear hov
    generalize hGe : (framesF l).length = G at *
    have HG := Lib.hid hGe
    clear hGe
    go_wp2_with fail
    refine (Scan_any Ab G cb (framesF l) w2 hxb hGle hcb).mono ?_
    rintro e w3 ⟨A3, c3, l3, a3, rfl, hs3, hc3, hl3, hb3⟩
    obtain ⟨rfl, rfl⟩ := HAll.out.unique hs3
    clear hs3 HAll
    have hbw3 : Below w.heap.size w w3 := hb2.trans (hb3.mono hb2.size)
    go_wp2_with fail
    refine (lists_any _ _ _ _ _ _ w3.heap.size l l w3 hl3 ((hli0.below hbw3).more hbw3.size) (by omega) (by omega)).mono ?_
    rw [show decide (l = l) = true from by simp]
    rintro e w4 ⟨rfl, m4, rfl⟩
    have hb4 : Below w.heap.size w (w3.drewN m4) := below_drewN hbw3 m4
    have hx4 : Bytes (w3.drewN m4) (w3.drewN m4).heap.size Ab G (framesF l) := ((hxb.below hb3).more hb3.size).drewN m4
    have HI : Hid (∀ j, j < l.length → ∃ b off, Av = some ⟨b, off, none⟩ ∧ (w3.drewN m4).cell? ⟨b, off + j, none⟩ = some (.int .i64 ((endF l (j + 1) : Nat) : Int))) := Lib.hid (fun j hj => by
      obtain ⟨b, off, e, hcell⟩ := hi j hj
      refine ⟨b, off, e, ?_⟩
      rw [← hcell]
      exact hb3.cell (p := ⟨b, off + j, none⟩) (block_lt hcell))
    clear hi hxb hb2 hb3 hl3
    generalize w3.drewN m4 = w4 at hb4 hx4 HI ⊢
    have g0 : ((G : Int) != (G : Int)) = false := by simp
    rcases Int.lt_or_le 0 cut with hcp | hcn
    · rcases Int.lt_or_le (G : Int) cut with hcg | hcl
      · rcases Nat.eq_zero_or_pos G with hG0 | hG1
        · subst hG0
          go_wp2_with fail
          go_loop [11, 12, 52] (fun W E i => CountRel l 0 W E i) (fun _ _ i => l.length - (intOf i).toNat)
          case atStart => exact ⟨0, 0, 0, Nat.zero_le _, rfl, rfl, rfl, CountTo.zero _ _⟩
          case round =>
            obtain ⟨j, W, E, hj, rfl, rfl, rfl, hct⟩ := hrel
            by_cases hlt : j < l.length
            · obtain ⟨b6, off6, rfl, hc6⟩ := HI.out j hlt
              have i1 : (j : Int) < (l.length : Int) := by omega
              have hWj : W ≤ j := hct.1
              by_cases hle : endF l (j + 1) ≤ 0
              · have hnx := hct.yes hle
                have HNX := Lib.hid hnx
                clear hct hnx
                generalize hee : endF l (j + 1) = ee at *
                have HEE := Lib.hid hee
                clear hee
                go_wp2_with fail
                go_round
                case rel => exact ⟨j + 1, W + 1, ee, by omega, by go_num, rfl, by go_num, HNX.out⟩
                case measure => simp [intOf]; omega
              · have hnx := hct.no (by omega)
                have HNX := Lib.hid hnx
                clear hct hnx
                generalize hee : endF l (j + 1) = ee at *
                have HEE := Lib.hid hee
                clear hee
                go_wp2_with fail
                go_round
                case rel => exact ⟨j + 1, W, E, by omega, by go_num, rfl, rfl, HNX.out⟩
                case measure => simp [intOf]; omega
            · obtain rfl : j = l.length := by omega
              have hW := hct.1
              have hsc := scanned_within l 0 W HB.out (by rw [HG.out]; omega) hct.1 (by rw [← hct.2.1]; exact hct.2.2.1) hct.2.2.2
              rw [← hct.2.1] at hsc
              have HSC := Lib.hid hsc
              clear hct hsc
              go_wp2_with fail
              refine (Scan_any Ab 0 cb ((framesF l).take 0) w4 (hx4.pre 0 (by omega)) (by omega) (by omega)).mono ?_
              rintro e w5 ⟨A5, c5, l5, a5, rfl, hs5, hc5, hl5, hb5⟩
              obtain ⟨rfl, rfl⟩ := hs5.unique HSC.out
              clear hs5
              have hbw5 : Below w.heap.size w w5 := hb4.trans (hb5.mono hb4.size)
              have hlW := Lib.hid hl5.len
              have hlA := ((hli0.below hbw5).more hbw5.size).pre W hW
              have i2 : (0 : Int) ≤ (W : Int) := by omega
              have i3 : (W : Int) ≤ (c : Int) := by omega
              have ela : (l.take W).length = W := by simp; omega
              rw [ela] at hl5
              have HEA := Lib.hid ela
              clear ela
              rw [HEA.out]
              go_wp2_with fail
              refine (lists_any _ _ _ _ _ _ w5.heap.size (l.take W) (l.take W) w5 hl5 hlA (by omega) (by omega)).mono ?_
              rw [show decide (l.take W = l.take W) = true from by simp]
              rintro e w6 ⟨rfl, m6, rfl⟩
              go_wp2_with fail
              refine (works_true _).mono ?_
              rintro e w7 ⟨rfl, hb7⟩
              go_wp2_with fail
              go_ret
              exact ⟨rfl, (below_drewN hbw5 m6).trans (hb7.mono hbw5.size)⟩
        · skip
          go_wp2_with fail
          go_loop [11, 12, 52] (fun W E i => CountRel l G W E i) (fun _ _ i => l.length - (intOf i).toNat)
          case atStart => exact ⟨0, 0, 0, Nat.zero_le _, rfl, rfl, rfl, CountTo.zero _ _⟩
          case round =>
            obtain ⟨j, W, E, hj, rfl, rfl, rfl, hct⟩ := hrel
            by_cases hlt : j < l.length
            · obtain ⟨b6, off6, rfl, hc6⟩ := HI.out j hlt
              have i1 : (j : Int) < (l.length : Int) := by omega
              have hWj : W ≤ j := hct.1
              by_cases hle : endF l (j + 1) ≤ G
              · have hnx := hct.yes hle
                have HNX := Lib.hid hnx
                clear hct hnx
                generalize hee : endF l (j + 1) = ee at *
                have HEE := Lib.hid hee
                clear hee
                go_wp2_with fail
                go_round
                case rel => exact ⟨j + 1, W + 1, ee, by omega, by go_num, rfl, by go_num, HNX.out⟩
                case measure => simp [intOf]; omega
              · have hnx := hct.no (by omega)
                have HNX := Lib.hid hnx
                clear hct hnx
                generalize hee : endF l (j + 1) = ee at *
                have HEE := Lib.hid hee
                clear hee
                go_wp2_with fail
                go_round
                case rel => exact ⟨j + 1, W, E, by omega, by go_num, rfl, rfl, HNX.out⟩
                case measure => simp [intOf]; omega
            · obtain rfl : j = l.length := by omega
              have hW := hct.1
              have hsc := scanned_within l G W HB.out (by rw [HG.out]; omega) hct.1 (by rw [← hct.2.1]; exact hct.2.2.1) hct.2.2.2
              rw [← hct.2.1] at hsc
              have HSC := Lib.hid hsc
              clear hct hsc
              go_wp2_with fail
              refine (Scan_any Ab G cb ((framesF l).take G) w4 (hx4.pre G (by omega)) (by omega) (by omega)).mono ?_
              rintro e w5 ⟨A5, c5, l5, a5, rfl, hs5, hc5, hl5, hb5⟩
              obtain ⟨rfl, rfl⟩ := hs5.unique HSC.out
              clear hs5
              have hbw5 : Below w.heap.size w w5 := hb4.trans (hb5.mono hb4.size)
              have hlW := Lib.hid hl5.len
              have hlA := ((hli0.below hbw5).more hbw5.size).pre W hW
              have i2 : (0 : Int) ≤ (W : Int) := by omega
              have i3 : (W : Int) ≤ (c : Int) := by omega
              have ela : (l.take W).length = W := by simp; omega
              rw [ela] at hl5
              have HEA := Lib.hid ela
              clear ela
              rw [HEA.out]
              go_wp2_with fail
              refine (lists_any _ _ _ _ _ _ w5.heap.size (l.take W) (l.take W) w5 hl5 hlA (by omega) (by omega)).mono ?_
              rw [show decide (l.take W = l.take W) = true from by simp]
              rintro e w6 ⟨rfl, m6, rfl⟩
              go_wp2_with fail
              refine (works_true _).mono ?_
              rintro e w7 ⟨rfl, hb7⟩
              go_wp2_with fail
              go_ret
              exact ⟨rfl, (below_drewN hbw5 m6).trans (hb7.mono hbw5.size)⟩
      · obtain ⟨k, rfl⟩ := Int.eq_ofNat_of_zero_le (a := cut) (by omega)
        go_wp2_with fail
        go_loop [11, 12, 52] (fun W E i => CountRel l k W E i) (fun _ _ i => l.length - (intOf i).toNat)
        case atStart => exact ⟨0, 0, 0, Nat.zero_le _, rfl, rfl, rfl, CountTo.zero _ _⟩
        case round =>
          obtain ⟨j, W, E, hj, rfl, rfl, rfl, hct⟩ := hrel
          by_cases hlt : j < l.length
          · obtain ⟨b6, off6, rfl, hc6⟩ := HI.out j hlt
            have i1 : (j : Int) < (l.length : Int) := by omega
            have hWj : W ≤ j := hct.1
            by_cases hle : endF l (j + 1) ≤ k
            · have hnx := hct.yes hle
              have HNX := Lib.hid hnx
              clear hct hnx
              generalize hee : endF l (j + 1) = ee at *
              have HEE := Lib.hid hee
              clear hee
              go_wp2_with fail
              go_round
              case rel => exact ⟨j + 1, W + 1, ee, by omega, by go_num, rfl, by go_num, HNX.out⟩
              case measure => simp [intOf]; omega
            · have hnx := hct.no (by omega)
              have HNX := Lib.hid hnx
              clear hct hnx
              generalize hee : endF l (j + 1) = ee at *
              have HEE := Lib.hid hee
              clear hee
              go_wp2_with fail
              go_round
              case rel => exact ⟨j + 1, W, E, by omega, by go_num, rfl, rfl, HNX.out⟩
              case measure => simp [intOf]; omega
          · obtain rfl : j = l.length := by omega
            have hW := hct.1
            have hsc := scanned_within l k W HB.out (by rw [HG.out]; omega) hct.1 (by rw [← hct.2.1]; exact hct.2.2.1) hct.2.2.2
            rw [← hct.2.1] at hsc
            have HSC := Lib.hid hsc
            clear hct hsc
            go_wp2_with fail
            refine (Scan_any Ab k cb ((framesF l).take k) w4 (hx4.pre k (by omega)) (by omega) (by omega)).mono ?_
            rintro e w5 ⟨A5, c5, l5, a5, rfl, hs5, hc5, hl5, hb5⟩
            obtain ⟨rfl, rfl⟩ := hs5.unique HSC.out
            clear hs5
            have hbw5 : Below w.heap.size w w5 := hb4.trans (hb5.mono hb4.size)
            have hlW := Lib.hid hl5.len
            have hlA := ((hli0.below hbw5).more hbw5.size).pre W hW
            have i2 : (0 : Int) ≤ (W : Int) := by omega
            have i3 : (W : Int) ≤ (c : Int) := by omega
            have ela : (l.take W).length = W := by simp; omega
            rw [ela] at hl5
            have HEA := Lib.hid ela
            clear ela
            rw [HEA.out]
            go_wp2_with fail
            refine (lists_any _ _ _ _ _ _ w5.heap.size (l.take W) (l.take W) w5 hl5 hlA (by omega) (by omega)).mono ?_
            rw [show decide (l.take W = l.take W) = true from by simp]
            rintro e w6 ⟨rfl, m6, rfl⟩
            go_wp2_with fail
            refine (works_true _).mono ?_
            rintro e w7 ⟨rfl, hb7⟩
            go_wp2_with fail
            go_ret
            exact ⟨rfl, (below_drewN hbw5 m6).trans (hb7.mono hbw5.size)⟩
    · skip
      go_wp2_with fail
      go_loop [11, 12, 52] (fun W E i => CountRel l 0 W E i) (fun _ _ i => l.length - (intOf i).toNat)
      case atStart => exact ⟨0, 0, 0, Nat.zero_le _, rfl, rfl, rfl, CountTo.zero _ _⟩
      case round =>
        obtain ⟨j, W, E, hj, rfl, rfl, rfl, hct⟩ := hrel
        by_cases hlt : j < l.length
        · obtain ⟨b6, off6, rfl, hc6⟩ := HI.out j hlt
          have i1 : (j : Int) < (l.length : Int) := by omega
          have hWj : W ≤ j := hct.1
          by_cases hle : endF l (j + 1) ≤ 0
          · have hnx := hct.yes hle
            have HNX := Lib.hid hnx
            clear hct hnx
            generalize hee : endF l (j + 1) = ee at *
            have HEE := Lib.hid hee
            clear hee
            go_wp2_with fail
            go_round
            case rel => exact ⟨j + 1, W + 1, ee, by omega, by go_num, rfl, by go_num, HNX.out⟩
            case measure => simp [intOf]; omega
          · have hnx := hct.no (by omega)
            have HNX := Lib.hid hnx
            clear hct hnx
            generalize hee : endF l (j + 1) = ee at *
            have HEE := Lib.hid hee
            clear hee
            go_wp2_with fail
            go_round
            case rel => exact ⟨j + 1, W, E, by omega, by go_num, rfl, rfl, HNX.out⟩
            case measure => simp [intOf]; omega
        · obtain rfl : j = l.length := by omega
          have hW := hct.1
          have hsc := scanned_within l 0 W HB.out (by rw [HG.out]; omega) hct.1 (by rw [← hct.2.1]; exact hct.2.2.1) hct.2.2.2
          rw [← hct.2.1] at hsc
          have HSC := Lib.hid hsc
          clear hct hsc
          go_wp2_with fail
          refine (Scan_any Ab 0 cb ((framesF l).take 0) w4 (hx4.pre 0 (by omega)) (by omega) (by omega)).mono ?_
          rintro e w5 ⟨A5, c5, l5, a5, rfl, hs5, hc5, hl5, hb5⟩
          obtain ⟨rfl, rfl⟩ := hs5.unique HSC.out
          clear hs5
          have hbw5 : Below w.heap.size w w5 := hb4.trans (hb5.mono hb4.size)
          have hlW := Lib.hid hl5.len
          have hlA := ((hli0.below hbw5).more hbw5.size).pre W hW
          have i2 : (0 : Int) ≤ (W : Int) := by omega
          have i3 : (W : Int) ≤ (c : Int) := by omega
          have ela : (l.take W).length = W := by simp; omega
          rw [ela] at hl5
          have HEA := Lib.hid ela
          clear ela
          rw [HEA.out]
          go_wp2_with fail
          refine (lists_any _ _ _ _ _ _ w5.heap.size (l.take W) (l.take W) w5 hl5 hlA (by omega) (by omega)).mono ?_
          rw [show decide (l.take W = l.take W) = true from by simp]
          rintro e w6 ⟨rfl, m6, rfl⟩
          go_wp2_with fail
          refine (works_true _).mono ?_
          rintro e w7 ⟨rfl, hb7⟩
          go_wp2_with fail
          go_ret
          exact ⟨rfl, (below_drewN hbw5 m6).trans (hb7.mono hbw5.size)⟩
end Go.Proofs.Ytfmjlkgbaanlhaa
