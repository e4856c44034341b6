/-
  How many nodes an expression has, and how deep it is: the program's and the reference's functions. (Printed by gen_pxdep.py.)
-/
import Derived.Test.YtlimlmjljjmcpaaGreatDoorPxBase
namespace Go.Proofs.YtlimlmjljjmcpaaGreatDoor.Px
open Go Go.RowKit Go.Proofs.YtlimlmjljjmcpaaGreatDoor.Ps
set_option linter.unusedVariables false
set_option linter.unusedSimpArgs false
theorem nodesL_take : ∀ (l : List X) (k : Nat) (h : k < l.length), nodesL (l.take (k + 1)) = nodesL (l.take k) + nodes l[k]
  | x :: l, 0, _ => by simp [nodesL]
  | x :: l, k + 1, h => by
    have := nodesL_take l k (by simpa using h)
    simp only [List.take_succ_cons, nodesL, List.getElem_cons_succ]
    omega
theorem nodesL_le : ∀ (l : List X) (k : Nat), nodesL (l.take k) ≤ nodesL l
  | [], k => by simp
  | x :: l, 0 => by simp [nodesL]
  | x :: l, k + 1 => by
    have := nodesL_le l k
    simp only [List.take_succ_cons, nodesL]
    omega
theorem depL_take : ∀ (l : List X) (k : Nat) (h : k < l.length), depL (l.take (k + 1)) = max (depL (l.take k)) (dep l[k])
  | x :: l, 0, _ => by simp [depL]
  | x :: l, k + 1, h => by
    have := depL_take l k (by simpa using h)
    simp only [List.take_succ_cons, depL, List.getElem_cons_succ]
    omega
mutual
theorem dep_le : ∀ x : X, dep x ≤ nodes x
  | .mk _ _ _ _ _ _ l => by
    have := depL_le l
    rw [dep, nodes]
    omega
theorem depL_le : ∀ l : List X, depL l ≤ nodesL l
  | [] => by simp [depL]
  | x :: l => by
    have := dep_le x
    have := depL_le l
    rw [depL, nodesL]
    omega
end
theorem depL_take_le : ∀ (l : List X) (k : Nat), depL (l.take k) ≤ nodesL l := fun l k => Nat.le_trans (depL_le _) (nodesL_le l k)
/-- what a loop over an expression's operands keeps: how far it is, a number, what lies below -/
structure Lp (w : World) (l : List X) (f : Nat → Nat) (n i : Value) (wr : World) : Prop where
  ex : ∃ k : Nat, k ≤ l.length ∧ i = .int .i64 (k : Int) ∧ n = .int .i64 (f k : Int)
  bel : Below w.heap.size w wr
set_option maxRecDepth 100000 in
set_option maxHeartbeats 8000000 in
theorem nodes_call : ∀ (N : Nat) (x : X) (cs : List Value) (w : World), nodes x ≤ N → N ≤ 1152921504606846976 → XR w x cs → Calls Tryz.prog 8 #[.agg cs.toArray] w (Ret w (.int .i64 (nodes x : Int)))
  | 0, x, _, _, h, _, _ => absurd (nodes_pos x) (by omega)
  | N + 1, .mk op int vk vi vs nm l, cs, w, hn, hN, h => by
    have HI := Lib.hid fun x cs w h1 h2 => nodes_call N x cs w h1 (by omega) h2
    rw [nodes] at hn ⊢
    obtain ⟨a, m, rfl, hl, _, _, hlen⟩ := h.lits
    have HL := Lib.hid hl
    clear h hl
    go_enter Tryz.func8, Tryz.ntmps8
    go_upto_region 1 with (fail)
    refine name_alloc (K := Code.wp _ _ _ _) fun w1 hB hw1 hz1 => ?_
    have HW := Lib.hid hw1
    have HBk := Lib.hid hB
    have p6 := hB.cell 6 rfl
    clear hB hw1
    go_wp2_with fail
    clear p6
    go_loopw [3, 4] (fun n i wr => Lp w1 l (fun k => nodesL (l.take k) + 1) n i wr) (fun _ i _ => l.length - (intOf i).toNat)
    case atStart => exact ⟨⟨0, Nat.zero_le _, rfl, by simp [nodesL]⟩, Below.refl _ _⟩
    case round =>
      obtain ⟨⟨k, hk, rfl, rfl⟩, hb⟩ := hrel
      have p6 := (HBk.out.below hb).cell 6 rfl
      by_cases hlt : k < l.length
      · have hwb := HW.out.trans (hb.mono HW.out.size)
        obtain ⟨g, o, us, eq, hgl, hcell, hkx, hrx⟩ := HL.out.at_ hlt
        subst eq
        have HX := Lib.hid hrx
        obtain ⟨eop, eint, evk, evi, evs, enm, el, ee⟩ : ∃ eop eint evk evi evs enm el, l[k] = X.mk eop eint evk evi evs enm el := by
          cases l[k]
          exact ⟨_, _, _, _, _, _, _, rfl⟩
        rw [ee] at hrx
        obtain ⟨ea, em, rfl, _⟩ := hrx.lits
        have rr : ∀ j (u : Value), ([.int .i64 eop, .int .i64 eint, .int .i64 evk, .int .i64 evi, .string ⟨evs.toArray⟩, .string ⟨enm.toArray⟩, .slice ea el.length em] : List Value)[j]? = some u → wr.cell? ⟨g, o + k * 7 + j, none⟩ = some u := fun j u hu => (hwb.cell (by exact hgl)).trans (hcell j u hu)
        have r0 := rr 0 _ rfl
        have r1 := rr 1 _ rfl
        have r2 := rr 2 _ rfl
        have r3 := rr 3 _ rfl
        have r4 := rr 4 _ rfl
        have r5 := rr 5 _ rfl
        have r6 := rr 6 _ rfl
        simp only [Nat.add_zero] at r0
        have EE := Lib.hid ee
        have c2 : (k : Int) < (l.length : Int) := by omega
        have c3 : (0 : Int) ≤ (k : Int) := by omega
        have d1 : decide ((k : Int) < (l.length : Int)) = true := decide_eq_true c2
        have gl : g < wr.heap.size := by have := hwb.size; omega
        have HWB := Lib.hid hwb
        clear rr hcell hrx ee
        have hs := nodesL_take l k hlt
        have hle := nodesL_le l (k + 1)
        have HB := Lib.hid hb
        clear hb hwb
        go_wp2_with fail
        refine (HI.out l[k] _ _ (by omega) (HX.out.kept HWB.out (Nat.le_refl _))).mono ?_
        rintro e' w4 ⟨rfl, hw4⟩
        have HB4 := Lib.hid (HB.out.trans (hw4.mono HB.out.size))
        have HS := Lib.hid hs
        have hv : nodesL (l.take k) + 1 + nodes l[k] ≤ 1152921504606846976 := by omega
        generalize nodes l[k] = M at hv HS
        clear hw4 HB HWB r0 r1 r2 r3 r4 r5 r6 p6 hs
        go_wp2_with fail
        go_roundw
        case rel => exact ⟨⟨k + 1, by omega, by go_num, congrArg (fun z => Value.int .i64 z) (by rw [HS.out]; omega)⟩, HB4.out⟩
        case measure => simp [intOf]; omega
      · obtain rfl : k = l.length := by omega
        have d1 : decide ((l.length : Int) < (l.length : Int)) = false := decide_eq_false (by omega)
        have HB := Lib.hid (HW.out.trans (hb.mono HW.out.size))
        have HT : Hid (nodesL (l.take l.length) = nodesL l) := Lib.hid (by rw [List.take_length])
        clear hb
        go_wp2_with fail
        go_ret
        exact ⟨by rw [← HT.out]; rfl, HB.out⟩
set_option maxRecDepth 100000 in
set_option maxHeartbeats 8000000 in
theorem rdepth_call : ∀ (N : Nat) (x : X) (cs : List Value) (w : World), nodes x ≤ N → N ≤ 1152921504606846976 → XR w x cs → Calls Tryz.prog 72 #[.agg cs.toArray] w (Ret w (.int .i64 (dep x : Int)))
  | 0, x, _, _, h, _, _ => absurd (nodes_pos x) (by omega)
  | N + 1, .mk op int vk vi vs nm l, cs, w, hn, hN, h => by
    have HI := Lib.hid fun x cs w h1 h2 => rdepth_call N x cs w h1 (by omega) h2
    rw [nodes] at hn
    rw [dep]
    obtain ⟨a, m, rfl, hl, _, _, hlen⟩ := h.lits
    have HL := Lib.hid hl
    clear h hl
    go_enter Tryz.func72, Tryz.ntmps72
    go_upto_region 1 with (fail)
    refine name_alloc (K := Code.wp _ _ _ _) fun w1 hB hw1 hz1 => ?_
    have HW := Lib.hid hw1
    have HBk := Lib.hid hB
    have p6 := hB.cell 6 rfl
    clear hB hw1
    go_wp2_with fail
    clear p6
    go_loopw [3, 4] (fun n i wr => Lp w1 l (fun k => depL (l.take k)) n i wr) (fun _ i _ => l.length - (intOf i).toNat)
    case atStart => exact ⟨⟨0, Nat.zero_le _, rfl, by simp [depL]⟩, Below.refl _ _⟩
    case round =>
      obtain ⟨⟨k, hk, rfl, rfl⟩, hb⟩ := hrel
      have p6 := (HBk.out.below hb).cell 6 rfl
      by_cases hlt : k < l.length
      · have hwb := HW.out.trans (hb.mono HW.out.size)
        obtain ⟨g, o, us, eq, hgl, hcell, hkx, hrx⟩ := HL.out.at_ hlt
        subst eq
        have HX := Lib.hid hrx
        obtain ⟨eop, eint, evk, evi, evs, enm, el, ee⟩ : ∃ eop eint evk evi evs enm el, l[k] = X.mk eop eint evk evi evs enm el := by
          cases l[k]
          exact ⟨_, _, _, _, _, _, _, rfl⟩
        rw [ee] at hrx
        obtain ⟨ea, em, rfl, _⟩ := hrx.lits
        have rr : ∀ j (u : Value), ([.int .i64 eop, .int .i64 eint, .int .i64 evk, .int .i64 evi, .string ⟨evs.toArray⟩, .string ⟨enm.toArray⟩, .slice ea el.length em] : List Value)[j]? = some u → wr.cell? ⟨g, o + k * 7 + j, none⟩ = some u := fun j u hu => (hwb.cell (by exact hgl)).trans (hcell j u hu)
        have r0 := rr 0 _ rfl
        have r1 := rr 1 _ rfl
        have r2 := rr 2 _ rfl
        have r3 := rr 3 _ rfl
        have r4 := rr 4 _ rfl
        have r5 := rr 5 _ rfl
        have r6 := rr 6 _ rfl
        simp only [Nat.add_zero] at r0
        have EE := Lib.hid ee
        have c2 : (k : Int) < (l.length : Int) := by omega
        have c3 : (0 : Int) ≤ (k : Int) := by omega
        have d1 : decide ((k : Int) < (l.length : Int)) = true := decide_eq_true c2
        have gl : g < wr.heap.size := by have := hwb.size; omega
        have HWB := Lib.hid hwb
        clear rr hcell hrx ee
        have hs := depL_take l k hlt
        have hle := nodesL_mem (List.getElem_mem (l := l) hlt)
        have HB := Lib.hid hb
        clear hb hwb
        go_wp2_with fail
        refine (HI.out l[k] _ _ (by omega) (HX.out.kept HWB.out (Nat.le_refl _))).mono ?_
        rintro e' w4 ⟨rfl, hw4⟩
        have HB4 := Lib.hid (HB.out.trans (hw4.mono HB.out.size))
        have HS := Lib.hid hs
        generalize dep l[k] = M at HS
        clear hw4 HB HWB r0 r1 r2 r3 r4 r5 r6 p6 hs
        go_wp2_with fail
        go_roundw
        case rel => exact ⟨⟨k + 1, by omega, by go_num, congrArg (fun z => Value.int .i64 z) (by rw [HS.out]; omega)⟩, HB4.out⟩
        case measure => simp [intOf]; omega
      · obtain rfl : k = l.length := by omega
        have d1 : decide ((l.length : Int) < (l.length : Int)) = false := decide_eq_false (by omega)
        have HB := Lib.hid (HW.out.trans (hb.mono HW.out.size))
        have hd : depL (l.take l.length) ≤ 1152921504606846975 := by have := depL_take_le l l.length; omega
        have HT : Hid (depL (l.take l.length) = depL l) := Lib.hid (by rw [List.take_length])
        clear hb
        generalize depL (l.take l.length) = M at hd HT
        have hd2 : (M : Int) ≤ 1152921504606846975 := by omega
        go_wp2_with fail
        go_ret
        exact ⟨by rw [← HT.out]; rfl, HB.out⟩
set_option maxRecDepth 100000 in
set_option maxHeartbeats 8000000 in
theorem rDepth_call (x : X) (cs : List Value) (w : World) (hn : nodes x ≤ 1152921504606846976) (h : XR w x cs) : Calls Tryz.prog 28 #[.agg cs.toArray] w (Ret w (.int .i64 (min (dep x) 25 : Nat))) := by
  have HX := Lib.hid h
  obtain ⟨op, int, vk, vi, vs, nm, l⟩ := x
  have HD := Lib.hid fun w' h' => rdepth_call _ (.mk op int vk vi vs nm l) cs w' (Nat.le_refl _) hn h'
  generalize dep (.mk op int vk vi vs nm l) = M at HD
  obtain ⟨a, m, rfl, hl, _, _, hlen⟩ := h.lits
  have HL := Lib.hid hl
  clear h hl
  go_enter Tryz.func28, Tryz.ntmps28
  go_upto_region 1 with (fail)
  refine name_alloc (K := Code.wp _ _ _ _) fun w1 hB hw1 hz1 => ?_
  have HW := Lib.hid hw1
  have HBk := Lib.hid hB
  have p6 := hB.cell 6 rfl
  have p0 := hB.cell 0 rfl
  have p1 := hB.cell 1 rfl
  have p2 := hB.cell 2 rfl
  have p3 := hB.cell 3 rfl
  have p4 := hB.cell 4 rfl
  have p5 := hB.cell 5 rfl
  clear hB hw1
  go_wp2_with fail
  refine (HD.out _ (HX.out.kept HW.out (Nat.le_refl _))).mono ?_
  rintro e' w4 ⟨rfl, hw4⟩
  have HB4 := Lib.hid (HW.out.trans (hw4.mono HW.out.size))
  clear hw4
  go_wp2_with fail
  go_ret
  exact ⟨congrArg (fun z => Ending.returned (.int .i64 z)) (by omega), HB4.out⟩
set_option maxRecDepth 100000 in
set_option maxHeartbeats 8000000 in
theorem depth_call : ∀ (N : Nat) (x : X) (cs : List Value) (w : World) (most : Nat), nodes x ≤ N → N ≤ 1152921504606846976 → 1 ≤ most → most ≤ 25 → XR w x cs → Calls Tryz.prog 59 #[.agg cs.toArray, .int .i64 (most : Int)] w (Ret w (.int .i64 (min (dep x) most : Nat)))
  | 0, x, _, _, _, h, _, _, _, _ => absurd (nodes_pos x) (by omega)
  | N + 1, .mk op int vk vi vs nm l, cs, w, most, hn, hN, hm, hm2, h => by
    rw [nodes] at hn
    rw [dep]
    obtain ⟨a, m, rfl, hl, _, _, hlen⟩ := h.lits
    have HL := Lib.hid hl
    clear h hl
    by_cases h1 : most ≤ 1
    · obtain rfl : most = 1 := by omega
      have e1 : min (depL l + 1) 1 = 1 := by omega
      rw [e1]
      go_enter Tryz.func59, Tryz.ntmps59
      go_upto_region 1 with (fail)
      refine name_alloc (K := Code.wp _ _ _ _) fun w1 hB hw1 hz1 => ?_
      have HW := Lib.hid hw1
      clear hB hw1
      go_wp2_with fail
      go_ret
      exact ⟨rfl, HW.out⟩
    · have HI := Lib.hid fun x cs w h1 h2 => depth_call N x cs w (most - 1) h1 (by omega) (by omega) (by omega) h2
      have hc : ((most - 1 : Nat) : Int) = (most : Int) - 1 := by omega
      rw [hc] at HI
      have n1 : ¬ (most : Int) ≤ 1 := by omega
      go_enter Tryz.func59, Tryz.ntmps59
      go_upto_region 1 with (fail)
      refine name_alloc (K := Code.wp _ _ _ _) fun w1 hB hw1 hz1 => ?_
      have HW := Lib.hid hw1
      have HBk := Lib.hid hB
      have p6 := hB.cell 6 rfl
      clear hB hw1 hc
      go_wp2_with fail
      clear p6
      go_loopw [5, 13] (fun n i wr => Lp w1 l (fun k => min (depL (l.take k)) (most - 1) + 1) n i wr) (fun _ i _ => l.length - (intOf i).toNat)
      case atStart => exact ⟨⟨0, Nat.zero_le _, rfl, by simp [depL]⟩, Below.refl _ _⟩
      case round =>
        obtain ⟨⟨k, hk, rfl, rfl⟩, hb⟩ := hrel
        by_cases hlt : k < l.length
        · have hwb := HW.out.trans (hb.mono HW.out.size)
          obtain ⟨g, o, us, eq, hgl, hcell, hkx, hrx⟩ := HL.out.at_ hlt
          subst eq
          have HX := Lib.hid hrx
          obtain ⟨eop, eint, evk, evi, evs, enm, el, ee⟩ : ∃ eop eint evk evi evs enm el, l[k] = X.mk eop eint evk evi evs enm el := by
            cases l[k]
            exact ⟨_, _, _, _, _, _, _, rfl⟩
          rw [ee] at hrx
          obtain ⟨ea, em, rfl, _⟩ := hrx.lits
          have rr : ∀ j (u : Value), ([.int .i64 eop, .int .i64 eint, .int .i64 evk, .int .i64 evi, .string ⟨evs.toArray⟩, .string ⟨enm.toArray⟩, .slice ea el.length em] : List Value)[j]? = some u → wr.cell? ⟨g, o + k * 7 + j, none⟩ = some u := fun j u hu => (hwb.cell (by exact hgl)).trans (hcell j u hu)
          have r0 := rr 0 _ rfl
          have r1 := rr 1 _ rfl
          have r2 := rr 2 _ rfl
          have r3 := rr 3 _ rfl
          have r4 := rr 4 _ rfl
          have r5 := rr 5 _ rfl
          have r6 := rr 6 _ rfl
          simp only [Nat.add_zero] at r0
          have EE := Lib.hid ee
          have c2 : (k : Int) < (l.length : Int) := by omega
          have c3 : (0 : Int) ≤ (k : Int) := by omega
          have d1 : decide ((k : Int) < (l.length : Int)) = true := decide_eq_true c2
          have gl : g < wr.heap.size := by have := hwb.size; omega
          have HWB := Lib.hid hwb
          clear rr hcell hrx ee
          have hs := depL_take l k hlt
          have hle := nodesL_mem (List.getElem_mem (l := l) hlt)
          have HB := Lib.hid hb
          clear hb hwb
          go_wp2_with fail
          refine (HI.out l[k] _ _ (by omega) (HX.out.kept (HWB.out.trans ((below1 wr _).mono HWB.out.size)) (Nat.le_refl _))).mono ?_
          rintro e' w4 ⟨rfl, hw4⟩
          have HB4 := Lib.hid ((HB.out.trans ((below1 wr _).mono HB.out.size)).trans (hw4.mono (by have := HB.out.size; simp; omega)))
          have HS := Lib.hid hs
          generalize dep l[k] = M at HS
          clear hw4 HB HWB r0 r1 r2 r3 r4 r5 r6 hs
          go_wp2_with fail
          go_roundw
          case rel => exact ⟨⟨k + 1, by omega, by go_num, congrArg (fun z => Value.int .i64 z) (by rw [HS.out]; omega)⟩, HB4.out⟩
          case measure => simp [intOf]; omega
        · obtain rfl : k = l.length := by omega
          have d1 : decide ((l.length : Int) < (l.length : Int)) = false := decide_eq_false (by omega)
          have HB := Lib.hid (HW.out.trans (hb.mono HW.out.size))
          have HT : Hid (depL (l.take l.length) = depL l) := Lib.hid (by rw [List.take_length])
          clear hb
          go_wp2_with fail
          go_ret
          exact ⟨congrArg (fun z => Ending.returned (.int .i64 z)) (by rw [HT.out]; omega), HB.out⟩
set_option maxRecDepth 100000 in
set_option maxHeartbeats 8000000 in
theorem Depth_call (x : X) (cs : List Value) (w : World) (hn : nodes x ≤ 1152921504606846976) (h : XR w x cs) : Calls Tryz.prog 24 #[.agg cs.toArray] w (Ret w (.int .i64 (min (dep x) 25 : Nat))) := by
  have HX := Lib.hid h
  obtain ⟨op, int, vk, vi, vs, nm, l⟩ := x
  have HD := Lib.hid fun w' h' => depth_call _ (.mk op int vk vi vs nm l) cs w' 25 (Nat.le_refl _) hn (by omega) (by omega) h'
  generalize dep (.mk op int vk vi vs nm l) = M at HD
  obtain ⟨a, m, rfl, hl, _, _, hlen⟩ := h.lits
  have HL := Lib.hid hl
  clear h hl
  go_enter Tryz.func24, Tryz.ntmps24
  go_upto_region 1 with (fail)
  refine name_alloc (K := Code.wp _ _ _ _) fun w1 hB hw1 hz1 => ?_
  have HW := Lib.hid hw1
  have HBk := Lib.hid hB
  have p6 := hB.cell 6 rfl
  have p0 := hB.cell 0 rfl
  have p1 := hB.cell 1 rfl
  have p2 := hB.cell 2 rfl
  have p3 := hB.cell 3 rfl
  have p4 := hB.cell 4 rfl
  have p5 := hB.cell 5 rfl
  clear hB hw1
  go_wp2_with fail
  refine (HD.out _ (HX.out.kept HW.out (Nat.le_refl _))).mono ?_
  rintro e' w4 ⟨rfl, hw4⟩
  have HB4 := Lib.hid (HW.out.trans (hw4.mono HW.out.size))
  clear hw4
  go_wp2_with fail
  go_ret
  exact ⟨rfl, HB4.out⟩
end Go.Proofs.YtlimlmjljjmcpaaGreatDoor.Px
