import Derived.Test.YtnlimlboedohgaaGreatDoorPsA
import Derived.Test.YtnlimlboedohgaaGreatDoorPxP
import Derived.Test.YtnlimlboedohgaaGreatDoorGrA
/-
  Expressions in memory: a tree that is an expression; its cells, its operands' cells.
-/
set_option maxHeartbeats 8000000
set_option maxRecDepth 100000
namespace Go.Proofs.YtnlimlboedohgaaGreatDoor.Px
open Go Go.RowKit Go.Proofs.YtnlimlboedohgaaGreatDoor.Ps
set_option linter.unusedVariables false
set_option linter.unusedSimpArgs false
def strV (s : S) : Value := .string ⟨s.toArray⟩
mutual
def toC : X -> C
 | .mk op int vk vi vs nm l => .a [.l (.int .i64 op), .l (.int .i64 int), .a [.l (.int .i64 vk), .l (.int .i64 vi), .l (strV vs)], .l (strV nm), .s (toCs l)]
def toCs : List X -> List C
 | [] => []
 | x :: l => toC x :: toCs l
end
theorem toCs_map : ∀ l : List X, toCs l = l.map toC
 | [] => rfl
 | x :: l => by rw [toCs, List.map_cons, toCs_map l]
/-- an expression's cells -/
def XR (w : World) (x : X) (cs : List Value) : Prop := Rp Tryz.prog w 31 cs (toC x)
/-- a list of expressions -/
def XL (w : World) (l : List X) (v : Value) : Prop := Rp Tryz.prog w 25 [v] (.s (toCs l))
theorem str_list (s : ByteArray) : (.string s : Value) = strV s.data.toList := by
 unfold strV
 cases s
 simp
theorem x_of : ∀ (N : Nat) (w : World) (cs : List Value) (c : C), SizeOf.sizeOf c <= N -> Rp Tryz.prog w 31 cs c -> ∃ x, c = toC x
 | 0, w, cs, c, hc, _ => by cases c <;> simp at hc
 | N + 1, w, cs, c, hc, h => by
  obtain ⟨op, int, k0, k1, k2, nm, q, n, m, xs, rfl, rfl, _, _, hl, hr⟩ := shp_Expr h
  have each : ∀ i, ∃ x : X, ∀ hi : i < xs.length, xs[i] = toC x := fun i => by
   by_cases hi : i < xs.length
   ·obtain ⟨_, _, _, ys, e1, e2, _, _, _, hx⟩ := hr.slice_inv Tryz.underlying25
    cases e2
    obtain ⟨_, us, _, _, hu⟩ := hx i hi
    obtain ⟨x, hx⟩ := x_of N w us xs[i] (by
     have := List.sizeOf_lt_of_mem (List.getElem_mem hi)
     simp at hc
     omega) hu
    exact ⟨x, fun _ => hx⟩
   ·exact ⟨.mk 0 0 0 0 [] [] [], fun hh => absurd hh hi⟩
  let f := fun i => Classical.choose (each i)
  refine ⟨.mk op int k0 k1 k2.data.toList nm.data.toList ((List.range xs.length).map f), ?_⟩
  have hxs : toCs ((List.range xs.length).map f) = xs := by
   rw [toCs_map]
   refine List.ext_getElem (by simp) fun i h1 h2 => ?_
   simp only [List.getElem_map, List.getElem_range]
   exact (Classical.choose_spec (each i) h2).symm
  rw [toC, <- str_list, <- str_list, hxs]
theorem XR.cells {w : World} {op int vk vi : Int} {vs nm : S} {l : List X} {cs : List Value} (h : XR w (.mk op int vk vi vs nm l) cs) : ∃ a m, cs = [.int .i64 op, .int .i64 int, .int .i64 vk, .int .i64 vi, strV vs, strV nm, .slice a l.length m] /\ XL w l (.slice a l.length m) /\ vs.length <= maxLen /\ nm.length <= maxLen := by
 unfold XR at h
 rw [toC] at h
 obtain ⟨op', int', k0, k1, k2, nm', q, n, m, xs, rfl, e, hs2, hs3, hl, hr⟩ := shp_Expr h
 injection e with e
 injection e with e0 e
 injection e with e1 e
 injection e with e2 e
 injection e with e3 e
 injection e with e4 _
 injection e0 with e0
 injection e0 with _ e0
 injection e1 with e1
 injection e1 with _ e1
 injection e2 with e2
 injection e2 with e20 e2
 injection e2 with e21 e2
 injection e2 with e22 _
 injection e20 with e20
 injection e20 with _ e20
 injection e21 with e21
 injection e21 with _ e21
 injection e22 with e22
 injection e3 with e3
 injection e4 with e4
 subst e0 e1 e20 e21
 have hn : n = l.length := by
  rw [<- hl, <- e4, toCs_map]
  simp
 subst hn
 have j2 : k2 = ⟨vs.toArray⟩ := by unfold strV at e22; injection e22 with e22; exact e22.symm
 have j3 : nm' = ⟨nm.toArray⟩ := by unfold strV at e3; injection e3 with e3; exact e3.symm
 subst j2 j3
 refine ⟨q, m, rfl, ?_, by simpa [ByteArray.size] using hs2, by simpa [ByteArray.size] using hs3⟩
 unfold XL
 rw [e4]
 exact hr
theorem XR.kept {n : Nat} {w w' : World} {x : X} {cs : List Value} (h : XR w x cs) (hb : Below n w w') (hn : w.heap.size <= n) : XR w' x cs := Rp.kept hb hn h
theorem XL.kept {n : Nat} {w w' : World} {l : List X} {v : Value} (h : XL w l v) (hb : Below n w w') (hn : w.heap.size <= n) : XL w' l v := Rp.kept hb hn h
/-- where an element of a slice lies -/
theorem elem_at {w : World} {t e : TypeId} {a : Option Addr} {n m k z : Nat} {xs : List C} (hu : Tryz.prog.underlying t = some (.slice e)) (hz : Tryz.prog.cellsOf e = z) (hz0 : 0 < z) (h : Rp Tryz.prog w t [.slice a n m] (.s xs)) (hk : k < n) :
  ∃ b o us, a = some ⟨b, o, none⟩ /\ b < w.heap.size /\ us.length = z /\ (∀ j u, us[j]? = some u -> w.cell? ⟨b, o + k * z + j, none⟩ = some u) /\ ∃ hx : k < xs.length, Rp Tryz.prog w e us xs[k] := by
 obtain ⟨a', n', m', xs', e1, e2, e3, _, _, hx⟩ := h.slice_inv hu
 cases e1
 cases e2
 obtain ⟨q, us, h1, h2, h3⟩ := hx k (by omega)
 obtain ⟨q0, us0, k1, k2, _⟩ := hx 0 (by omega)
 rw [h1] at k1
 cases k1
 rw [hz] at h2 k2
 obtain ⟨_, l2, l3⟩ := World.cells?_some h2
 obtain ⟨_, m2, m3⟩ := World.cells?_some k2
 have hblk := World.cells?_block h2 hz0
 obtain ⟨b, o, s⟩ := q
 have hs : s = none := by
  have h0 := m3 0 hz0
  rw [List.getElem?_eq_getElem (by omega), Nat.zero_mul] at h0
  cases s with
  | none => rfl
  | some r =>
   exfalso
   have e0 : ((⟨b, o, some r⟩ : Addr).add 0).add 0 = ⟨b, o, some r⟩ := by simp [Addr.add]
   rw [e0] at h0
   unfold World.cell? at h0
   split at h0
   ·simp at h0
   ·cases h0
 subst hs
 rw [add_block] at hblk
 refine ⟨b, o, us, h1, hblk, l2, fun j u hj => ?_, by omega, h3⟩
 have hj' := (List.getElem?_eq_some_iff.1 hj).1
 have := l3 j (by omega)
 rw [hj, Addr.add_lit, Addr.add_lit] at this
 exact this
theorem XL.at_ {w : World} {l : List X} {a : Option Addr} {n m k : Nat} (h : XL w l (.slice a n m)) (hk : k < n) : ∃ b o us, a = some ⟨b, o, none⟩ /\ b < w.heap.size /\ (∀ j u, us[j]? = some u -> w.cell? ⟨b, o + k * 7 + j, none⟩ = some u) /\ ∃ hx : k < l.length, XR w l[k] us := by
 obtain ⟨b, o, us, h1, h2, _, h4, hx, h5⟩ := elem_at Tryz.underlying25 zc_Expr (by omega) h hk
 have hx' : k < l.length := by rw [toCs_map] at hx; simpa using hx
 refine ⟨b, o, us, h1, h2, h4, hx', ?_⟩
 unfold XR
 have : (toCs l)[k] = toC l[k] := by simp [toCs_map]
 rw [<- this]
 exact h5
/-- the call yields this value and leaves the old memory -/
def Ret (w : World) (v : Value) (e : Ending) (w' : World) : Prop := e = .returned v /\ Below w.heap.size w w'
theorem Ret.at_ {w w1 : World} {v : Value} {F : FuncId} {args : Array Value} (h : Calls Tryz.prog F args w1 (Ret w1 v)) (hb : Below w.heap.size w w1) : Calls Tryz.prog F args w1 (Ret w v) :=
 h.mono fun e w' ⟨h1, h2⟩ => ⟨h1, hb.trans (h2.mono hb.size)⟩
/-- for a region's family of worlds -/
theorem Ret.fam {w w1 : World} {v : Value} {F : FuncId} {args : Array Value} (h : Calls Tryz.prog F args w1 (Ret w1 v)) (hb : Below w.heap.size w w1) : Calls Tryz.prog F args w1 (fun e w' => e = .returned v /\ Below w.heap.size w w') :=
 h.mono fun e w' ⟨h1, h2⟩ => ⟨h1, hb.trans (h2.mono hb.size)⟩
theorem XR.lits {w : World} {op int vk vi : Int} {vs nm : S} {l : List X} {cs : List Value} (h : XR w (.mk op int vk vi vs nm l) cs) :
  ∃ a m, cs = [.int .i64 op, .int .i64 int, .int .i64 vk, .int .i64 vi, .string ⟨vs.toArray⟩, .string ⟨nm.toArray⟩, .slice a l.length m] /\ XL w l (.slice a l.length m) /\ vs.length <= maxLen /\ nm.length <= maxLen /\ l.length <= 140737488351232 := by
 obtain ⟨a, m, e, hl, h1, h2⟩ := h.cells
 refine ⟨a, m, e, hl, h1, h2, ?_⟩
 have := (slice_len Tryz.underlying25 (by kernel_rfl : Tryz.prog.bytesOf 31 = 88) (by decide) hl).2
 omega
theorem nodesL_le : ∀ (l : List X) (k : Nat), nodesL (l.take k) <= nodesL l
 | [], k => by simp
 | x :: l, 0 => by simp [nodesL]
 | x :: l, k + 1 => by
  have := nodesL_le l k
  simp only [List.take_succ_cons, nodesL]
  omega
theorem depL_take : ∀ (l : List X) (k : Nat) (h : k < l.length), depL (l.take (k + 1)) = max (depL (l.take k)) (dep l[k])
 | x :: l, 0, _ => by simp [depL]
 | x :: l, k + 1, h => by
  have := depL_take l k (by simpa using h)
  simp only [List.take_succ_cons, depL, List.getElem_cons_succ]
  omega
mutual
theorem dep_le : ∀ x : X, dep x <= nodes x
 | .mk _ _ _ _ _ _ l => by
  have := depL_le l
  rw [dep, nodes]
  omega
theorem depL_le : ∀ l : List X, depL l <= nodesL l
 | [] => by simp [depL]
 | x :: l => by
  have := dep_le x
  have := depL_le l
  rw [depL, nodesL]
  omega
end
theorem depL_take_le : ∀ (l : List X) (k : Nat), depL (l.take k) <= nodesL l := fun l k => Nat.le_trans (depL_le _) (nodesL_le l k)
/-- what a loop over an expression's operands keeps: how far it is, a number, what lies below -/
structure Lp (w : World) (l : List X) (f : Nat -> Nat) (n i : Value) (wr : World) : Prop where
 ex : ∃ k : Nat, k <= l.length /\ i = .int .i64 (k : Int) /\ n = .int .i64 (f k : Int)
 bel : Below w.heap.size w wr
theorem rdepth_call : ∀ (N : Nat) (x : X) (cs : List Value) (w : World), nodes x <= N -> N <= 1152921504606846976 -> XR w x cs -> Calls Tryz.prog 96 #[.agg cs.toArray] w (Ret w (.int .i64 (dep x : Int)))
 | 0, x, _, _, h, _, _ => absurd (nodes_pos x) (by omega)
 | N + 1, .mk op int vk vi vs nm l, cs, w, hn, hN, h => by
  have HI := h_ fun x cs w h1 h2 => rdepth_call N x cs w h1 (by omega) h2
  rw [nodes] at hn
  rw [dep]
  obtain ⟨a, m, rfl, hl, _, _, hlen⟩ := h.lits
  have HL := h_ hl
  clear h hl
  go_enter Tryz.func96, Tryz.ntmps96
  go_upto_region 1 with (fail)
  refine nA fun w1 hB hw1 hz1 => ?_
  have HW := h_ hw1
  have HBk := h_ hB
  have p6 := hB.cell 6 rfl
  clear hB hw1
  go_wp2_with fail
  clear p6
  go_loopw [3, 4] (fun n i wr => Lp w1 l (fun k => depL (l.take k)) n i wr) (fun _ i _ => l.length - (intOf i).toNat)
  case atStart => exact ⟨⟨0, Nat.zero_le _, rfl, by simp [depL]⟩, Below.refl _ _⟩
  case round =>
   obtain ⟨⟨k, hk, rfl, rfl⟩, hb⟩ := hrel
   have p6 := (HBk.out.below hb).cell 6 rfl
   by_cases hlt : k < l.length
   ·have hwb := HW.out.trans (hb.mono HW.out.size)
    obtain ⟨g, o, us, eq, hgl, hcell, hkx, hrx⟩ := HL.out.at_ hlt
    subst eq
    have HX := h_ hrx
    obtain ⟨eop, eint, evk, evi, evs, enm, el, ee⟩ : ∃ eop eint evk evi evs enm el, l[k] = X.mk eop eint evk evi evs enm el := by
     cases l[k]
     exact ⟨_, _, _, _, _, _, _, rfl⟩
    rw [ee] at hrx
    obtain ⟨ea, em, rfl, _⟩ := hrx.lits
    have rr : ∀ j (u : Value), ([.int .i64 eop, .int .i64 eint, .int .i64 evk, .int .i64 evi, .string ⟨evs.toArray⟩, .string ⟨enm.toArray⟩, .slice ea el.length em] : List Value)[j]? = some u -> wr.cell? ⟨g, o + k * 7 + j, none⟩ = some u := fun j u hu => (hwb.cell (by exact hgl)).trans (hcell j u hu)
    have r0 := rr 0 _ rfl
    have r1 := rr 1 _ rfl
    have r2 := rr 2 _ rfl
    have r3 := rr 3 _ rfl
    have r4 := rr 4 _ rfl
    have r5 := rr 5 _ rfl
    have r6 := rr 6 _ rfl
    simp only [Nat.add_zero] at r0
    have EE := h_ ee
    have c2 : (k : Int) < (l.length : Int) := by omega
    have c3 : (0 : Int) <= (k : Int) := by omega
    have d1 : decide ((k : Int) < (l.length : Int)) = true := decide_eq_true c2
    have gl : g < wr.heap.size := by have := hwb.size; omega
    have HWB := h_ hwb
    clear rr hcell hrx ee
    have hs := depL_take l k hlt
    have hle := nodesL_mem (List.getElem_mem (l := l) hlt)
    have HB := h_ hb
    clear hb hwb
    go_wp2_with fail
    refine (HI.out l[k] _ _ (by omega) (HX.out.kept HWB.out (Nat.le_refl _))).mono ?_
    rintro e' w4 ⟨rfl, hw4⟩
    have HB4 := t_ HB hw4
    have HS := h_ hs
    generalize dep l[k] = M at HS
    clear hw4 HB HWB r0 r1 r2 r3 r4 r5 r6 p6 hs
    go_wp2_with fail
    go_roundw
    case rel => exact ⟨⟨k + 1, by omega, by go_num, congrArg (fun z => Value.int .i64 z) (by rw [HS.out]; omega)⟩, HB4.out⟩
    case measure => simp [intOf]; omega
   ·obtain rfl : k = l.length := by omega
    have d1 : decide ((l.length : Int) < (l.length : Int)) = false := decide_eq_false (by omega)
    have HB := t_ HW hb
    have hd : depL (l.take l.length) <= 1152921504606846975 := by have := depL_take_le l l.length; omega
    have HT : Hid (depL (l.take l.length) = depL l) := h_ (by rw [List.take_length])
    clear hb
    generalize depL (l.take l.length) = M at hd HT
    have hd2 : (M : Int) <= 1152921504606846975 := by omega
    go_wp2_with fail
    go_ret
    exact ⟨by rw [<- HT.out]; rfl, HB.out⟩
theorem rDepth_call (x : X) (cs : List Value) (w : World) (hn : nodes x <= 1152921504606846976) (h : XR w x cs) : Calls Tryz.prog 58 #[.agg cs.toArray] w (Ret w (.int .i64 (min (dep x) 25 : Nat))) := by
 have HX := h_ h
 obtain ⟨op, int, vk, vi, vs, nm, l⟩ := x
 have HD := h_ fun w' h' => rdepth_call _ (.mk op int vk vi vs nm l) cs w' (Nat.le_refl _) hn h'
 generalize dep (.mk op int vk vi vs nm l) = M at HD
 obtain ⟨a, m, rfl, hl, _, _, hlen⟩ := h.lits
 have HL := h_ hl
 clear h hl
 go_enter Tryz.func58, Tryz.ntmps58
 go_upto_region 1 with (fail)
 refine nA fun w1 hB hw1 hz1 => ?_
 have HW := h_ hw1
 have HBk := h_ hB
 have p6 := hB.cell 6 rfl
 have p0 := hB.cell 0 rfl
 have p1 := hB.cell 1 rfl
 have p2 := hB.cell 2 rfl
 have p3 := hB.cell 3 rfl
 have p4 := hB.cell 4 rfl
 have p5 := hB.cell 5 rfl
 clear hB hw1
 go_wp2_with fail
 refine (HD.out _ (HX.out.kept HW.out (Nat.le_refl _))).mono ?_
 rintro e' w4 ⟨rfl, hw4⟩
 have HB4 := t_ HW hw4
 clear hw4
 go_wp2_with fail
 go_ret
 exact ⟨congrArg (fun z => Ending.returned (.int .i64 z)) (by omega), HB4.out⟩
theorem depth_call : ∀ (N : Nat) (x : X) (cs : List Value) (w : World) (most : Nat), nodes x <= N -> N <= 1152921504606846976 -> 1 <= most -> most <= 25 -> XR w x cs -> Calls Tryz.prog 203 #[.agg cs.toArray, .int .i64 (most : Int)] w (Ret w (.int .i64 (min (dep x) most : Nat)))
 | 0, x, _, _, _, h, _, _, _, _ => absurd (nodes_pos x) (by omega)
 | N + 1, .mk op int vk vi vs nm l, cs, w, most, hn, hN, hm, hm2, h => by
  rw [nodes] at hn
  rw [dep]
  obtain ⟨a, m, rfl, hl, _, _, hlen⟩ := h.lits
  have HL := h_ hl
  clear h hl
  by_cases h1 : most <= 1
  ·obtain rfl : most = 1 := by omega
   have e1 : min (depL l + 1) 1 = 1 := by omega
   rw [e1]
   go_enter Tryz.func203, Tryz.ntmps203
   go_upto_region 1 with (fail)
   refine nA fun w1 hB hw1 hz1 => ?_
   have HW := h_ hw1
   clear hB hw1
   go_wp2_with fail
   go_ret
   exact ⟨rfl, HW.out⟩
  ·have HI := h_ fun x cs w h1 h2 => depth_call N x cs w (most - 1) h1 (by omega) (by omega) (by omega) h2
   have hc : ((most - 1 : Nat) : Int) = (most : Int) - 1 := by omega
   rw [hc] at HI
   have n1 : ¬ (most : Int) <= 1 := by omega
   go_enter Tryz.func203, Tryz.ntmps203
   go_upto_region 1 with (fail)
   refine nA fun w1 hB hw1 hz1 => ?_
   have HW := h_ hw1
   have HBk := h_ hB
   have p6 := hB.cell 6 rfl
   clear hB hw1 hc
   go_wp2_with fail
   clear p6
   go_loopw [5, 13] (fun n i wr => Lp w1 l (fun k => min (depL (l.take k)) (most - 1) + 1) n i wr) (fun _ i _ => l.length - (intOf i).toNat)
   case atStart => exact ⟨⟨0, Nat.zero_le _, rfl, by simp [depL]⟩, Below.refl _ _⟩
   case round =>
    obtain ⟨⟨k, hk, rfl, rfl⟩, hb⟩ := hrel
    by_cases hlt : k < l.length
    ·have hwb := HW.out.trans (hb.mono HW.out.size)
     obtain ⟨g, o, us, eq, hgl, hcell, hkx, hrx⟩ := HL.out.at_ hlt
     subst eq
     have HX := h_ hrx
     obtain ⟨eop, eint, evk, evi, evs, enm, el, ee⟩ : ∃ eop eint evk evi evs enm el, l[k] = X.mk eop eint evk evi evs enm el := by
      cases l[k]
      exact ⟨_, _, _, _, _, _, _, rfl⟩
     rw [ee] at hrx
     obtain ⟨ea, em, rfl, _⟩ := hrx.lits
     have rr : ∀ j (u : Value), ([.int .i64 eop, .int .i64 eint, .int .i64 evk, .int .i64 evi, .string ⟨evs.toArray⟩, .string ⟨enm.toArray⟩, .slice ea el.length em] : List Value)[j]? = some u -> wr.cell? ⟨g, o + k * 7 + j, none⟩ = some u := fun j u hu => (hwb.cell (by exact hgl)).trans (hcell j u hu)
     have r0 := rr 0 _ rfl
     have r1 := rr 1 _ rfl
     have r2 := rr 2 _ rfl
     have r3 := rr 3 _ rfl
     have r4 := rr 4 _ rfl
     have r5 := rr 5 _ rfl
     have r6 := rr 6 _ rfl
     simp only [Nat.add_zero] at r0
     have EE := h_ ee
     have c2 : (k : Int) < (l.length : Int) := by omega
     have c3 : (0 : Int) <= (k : Int) := by omega
     have d1 : decide ((k : Int) < (l.length : Int)) = true := decide_eq_true c2
     have gl : g < wr.heap.size := by have := hwb.size; omega
     have HWB := h_ hwb
     clear rr hcell hrx ee
     have hs := depL_take l k hlt
     have hle := nodesL_mem (List.getElem_mem (l := l) hlt)
     have HB := h_ hb
     clear hb hwb
     go_wp2_with fail
     refine (HI.out l[k] _ _ (by omega) (HX.out.kept (HWB.out.trans ((below1 wr _).mono HWB.out.size)) (Nat.le_refl _))).mono ?_
     rintro e' w4 ⟨rfl, hw4⟩
     have HB4 := h_ ((HB.out.trans ((below1 wr _).mono HB.out.size)).trans (hw4.mono (by have := HB.out.size; simp; omega)))
     have HS := h_ hs
     generalize dep l[k] = M at HS
     clear hw4 HB HWB r0 r1 r2 r3 r4 r5 r6 hs
     go_wp2_with fail
     go_roundw
     case rel => exact ⟨⟨k + 1, by omega, by go_num, congrArg (fun z => Value.int .i64 z) (by rw [HS.out]; omega)⟩, HB4.out⟩
     case measure => simp [intOf]; omega
    ·obtain rfl : k = l.length := by omega
     have d1 : decide ((l.length : Int) < (l.length : Int)) = false := decide_eq_false (by omega)
     have HB := t_ HW hb
     have HT : Hid (depL (l.take l.length) = depL l) := h_ (by rw [List.take_length])
     clear hb
     go_wp2_with fail
     go_ret
     exact ⟨congrArg (fun z => Ending.returned (.int .i64 z)) (by rw [HT.out]; omega), HB.out⟩
theorem Depth_call (x : X) (cs : List Value) (w : World) (hn : nodes x <= 1152921504606846976) (h : XR w x cs) : Calls Tryz.prog 118 #[.agg cs.toArray] w (Ret w (.int .i64 (min (dep x) 25 : Nat))) := by
 have HX := h_ h
 obtain ⟨op, int, vk, vi, vs, nm, l⟩ := x
 have HD := h_ fun w' h' => depth_call _ (.mk op int vk vi vs nm l) cs w' 25 (Nat.le_refl _) hn (by omega) (by omega) h'
 generalize dep (.mk op int vk vi vs nm l) = M at HD
 obtain ⟨a, m, rfl, hl, _, _, hlen⟩ := h.lits
 have HL := h_ hl
 clear h hl
 go_enter Tryz.func118, Tryz.ntmps118
 go_upto_region 1 with (fail)
 refine nA fun w1 hB hw1 hz1 => ?_
 have HW := h_ hw1
 have HBk := h_ hB
 have p6 := hB.cell 6 rfl
 have p0 := hB.cell 0 rfl
 have p1 := hB.cell 1 rfl
 have p2 := hB.cell 2 rfl
 have p3 := hB.cell 3 rfl
 have p4 := hB.cell 4 rfl
 have p5 := hB.cell 5 rfl
 clear hB hw1
 go_wp2_with fail
 refine (HD.out _ (HX.out.kept HW.out (Nat.le_refl _))).mono ?_
 rintro e' w4 ⟨rfl, hw4⟩
 have HB4 := t_ HW hw4
 clear hw4
 go_wp2_with fail
 go_ret
 exact ⟨rfl, HB4.out⟩
end Go.Proofs.YtnlimlboedohgaaGreatDoor.Px
