import Derived.Test.YtpmncgbpbcgfaaaGreatDoorSxC
import Derived.Deep.MidRow
import Derived.Test.YtpmncgbpbcgfaaaGreatDoorSxR
import Derived.Great.CaseRows
import Derived.Test.YtpmncgbpbcgfaaaGreatDoorPlA
/-
  For the comparisons of the reference: an element of a slice in memory; loads under a guard.
-/
namespace Go.Proofs.YtpmncgbpbcgfaaaGreatDoor
open Go.RowKit
set_option linter.unusedVariables false
set_option linter.unusedSimpArgs false

/-- an element's cells -/
structure ElemAt {α : Type} (size : Nat) (rep : Rep α) (w : World) (F : Nat → Prop) (a : α) (A : Option Addr) (k g : Nat) (cs : List Value) : Prop where
  addr : A = some ⟨g, 0, none⟩
  lt : g < w.heap.size
  cell : ∀ j, j < size → w.cell? ⟨g, k * size + j, none⟩ = cs[j]?
  rep : rep w F a cs
section
variable {α : Type} {size : Nat} {rep : Rep α} {w w' : World} {F : Nat → Prop} {l : List α} {A : Option Addr} {n c : Nat}
theorem LRep.len_eq (h : LRep size rep w F l (.slice A n c)) : n = l.length := by
  rcases h with ⟨h0, h1⟩ | ⟨g, cap, css, hv, _⟩
  · injection h1 with _ h2; rw [h2, h0]; rfl
  · injection hv
theorem LRep.len_le (h : LRep size rep w F l (.slice A n c)) : l.length ≤ maxLen := by
  rcases h with ⟨h0, h1⟩ | ⟨g, cap, css, hv, hm, _⟩
  · rw [h0]; exact Nat.zero_le _
  · exact hm
theorem LRep.at_ (h : LRep size rep w F l (.slice A n c)) {k : Nat} (hk : k < l.length) : ∃ g cs, ElemAt size rep w F l[k] A k g cs := by
  rcases h with ⟨h0, h1⟩ | ⟨g, cap, css, hv, hm, hF, hg, hc, hr⟩
  · subst h0; simp at hk
  · injection hv with hA _ _
    exact ⟨g, css k, hA, hg, hc k hk, hr k hk⟩
theorem ElemAt.range {a : α} {k g : Nat} {cs : List Value} (G : Good rep size) (h : ElemAt size rep w F a A k g cs) : w.rangeAt g (k * size) cs := by
  intro j v hj
  have hl := G.len h.rep
  have hj' : j < cs.length := (List.getElem?_eq_some_iff.1 hj).1
  rw [h.cell j (by omega)]
  exact hj
theorem ElemAt.below {a : α} {k g : Nat} {cs : List Value} (G : Good rep size) (h : ElemAt size rep w F a A k g cs) (hb : Below w.heap.size w w') : ElemAt size rep w' F a A k g cs :=
  ⟨h.addr, Nat.lt_of_lt_of_le h.lt hb.size, fun j hj => by rw [hb.cell (p := ⟨g, k * size + j, none⟩) h.lt]; exact h.cell j hj, G.below h.rep hb⟩
end
section
variable {P : Program} {ops : Array Oper} {rest : List Oper} {op : Oper} {a : Act} {w : World} {Q : Exit → Act → World → Prop}
/-- a load under a guard that is met -/
theorem load_met (hw : Region.wanted op (yielded ops a.tmps) = true) (ty : TypeId) (x : Operand) (ho : op.op = .load ty x)
    (b o : Nat) (hx : a.eval x = .pointer (some ⟨b, o, none⟩)) (cs : List Value) (d : TypeDesc) (hc : w.rangeAt b o cs)
    (hu : P.underlying ty = some d) (hd : d.isRow = true) (hi : (P.info? ty).map (·.size) = some cs.length)
    (h : wpList P ops Q rest (a.put op.dst (.agg cs.toArray)) w) : wpList P ops Q (op :: rest) a w :=
  wpList_step fun K hK => by rw [if_pos hw]; exact wp_load_mid ty x ho b o hx cs d hc hu hd hi (hK _ _ h)
end
/-- where a loop over a list stands -/
structure LoopAt (w : World) (n k : Nat) (c : Value) (wr : World) : Prop where
  le : k ≤ n
  c : c = .int .i64 (k : Int)
  bel : Below w.heap.size w wr
/-- part of a block's cells -/
theorem Blk.part {w : World} {g : Nat} {t : TypeId} {pre cs post : List Value} (h : Blk w g (pre ++ (cs ++ post)) t) : w.rangeAt g pre.length cs := by
  intro j v hj
  have hj' : j < cs.length := (List.getElem?_eq_some_iff.1 hj).1
  refine h.cell _ ?_
  rw [List.getElem?_append_right (by omega), Nat.add_sub_cancel_left, List.getElem?_append_left hj']
  exact hj
end Go.Proofs.YtpmncgbpbcgfaaaGreatDoor

/-
  The reference's comparison of expressions, and of lists of them, at equal values.
-/
namespace Go.Proofs.YtpmncgbpbcgfaaaGreatDoor
open Go.RowKit
set_option linter.unusedVariables false
set_option linter.unusedSimpArgs false

theorem depL_at : ∀ (l : List E) (k : Nat) (hk : k < l.length), E.dep l[k] ≤ E.depL l
  | e :: l, 0, _ => by simp only [E.depL, List.getElem_cons_zero]; omega
  | e :: l, k + 1, hk => by
    have := depL_at l k (by simpa using hk)
    simp only [E.depL, List.getElem_cons_succ]
    omega
set_option maxHeartbeats 4000000 in
set_option maxRecDepth 100000 in
theorem sameE_call : ∀ (n : Nat) (e : E), E.dep e ≤ n → ∀ (cs ds : List Value) (w : World) (F G : Nat → Prop), ERep w F e cs → ERep w G e ds →
    Calls Tryz.prog 19 #[.agg cs.toArray, .agg ds.toArray] w fun e' w' => e' = .returned (.bool true) ∧ Below w.heap.size w w'
  | 0, e, h => absurd (dep_pos e) (by omega)
  | n + 1, .mk op int v name l, h => by
    intro cs ds w F G h1 h2
    have HI := Lib.hid (sameE_call n)
    have HD : Hid (∀ k (hk : k < l.length), E.dep l[k] ≤ n) := Lib.hid (fun k hk => by
      have := depL_at l k hk
      simp only [E.dep] at h
      omega)
    obtain ⟨a, rfl, hl⟩ := erep_iff.1 h1
    obtain ⟨b, rfl, hm⟩ := erep_iff.1 h2
    obtain ⟨A, c, rfl⟩ := hl.form
    obtain ⟨B, c', rfl⟩ := hm.form
    have hlen := hl.len_le
    unfold maxLen at hlen
    have HL := Lib.hid hl
    have HM := Lib.hid hm
    clear h h1 h2 hl hm
    unfold eCells strV
    go_enter Tryz.func19, Tryz.ntmps19
    go_upto_region 1 with (fail)
    refine name_alloc2 (K := Code.wp _ _ _ _) fun w1 hB hX hw1 hz1 => ?_
    have b0 := hB.cell 0 rfl
    have b1 := hB.cell 1 rfl
    have b2 := hB.cell 2 rfl
    have b3 := hB.cell 3 rfl
    have b4 := hB.cell 4 rfl
    have b5 := hB.cell 5 rfl
    have b6 := hB.cell 6 rfl
    have x0 := hX.cell 0 rfl
    have x1 := hX.cell 1 rfl
    have x2 := hX.cell 2 rfl
    have x3 := hX.cell 3 rfl
    have x4 := hX.cell 4 rfl
    have x5 := hX.cell 5 rfl
    have x6 := hX.cell 6 rfl
    replace HL := Lib.hid (HL.out.kept goodE fun b _ hl => hw1.block b hl)
    replace HM := Lib.hid (HM.out.kept goodE fun b _ hl => hw1.block b hl)
    go_wp2_with fail
    clear b0 b1 b2 b3 b4 b5 b6 x0 x1 x2 x3 x4 x5 x6
    go_loopw [5] (fun c5 wr => ∃ k, LoopAt w1 l.length k c5 wr) (fun c5 _ => l.length - (intOf c5).toNat)
    case atStart => exact ⟨0, ⟨Nat.zero_le _, rfl, Below.refl _ _⟩⟩
    case round =>
      obtain ⟨k, ⟨hk, rfl, hb⟩⟩ := hrel
      have b6 := (hb.cell (p := ⟨w.heap.size, 6, none⟩) (by show w.heap.size < _; omega)).trans (hB.cell 6 rfl)
      have x6 := (hb.cell (p := ⟨w.heap.size + 1, 6, none⟩) (by show w.heap.size + 1 < _; omega)).trans (hX.cell 6 rfl)
      by_cases hlt : k < l.length
      · obtain ⟨g, us, he⟩ := HL.out.at_ hlt
        obtain ⟨g', vs, hf⟩ := HM.out.at_ hlt
        obtain rfl := he.addr
        obtain rfl := hf.addr
        replace he := he.below goodE (hb.mono (Nat.le_refl _))
        replace hf := hf.below goodE (hb.mono (Nat.le_refl _))
        have HE := Lib.hid he.rep
        have HF := Lib.hid hf.rep
        have HDk := Lib.hid (HD.out k hlt)
        obtain ⟨p0, p1, p2, p3, p4, p5, P, p6, p7, rfl⟩ := erep_lit he.rep
        obtain ⟨q0, q1, q2, q3, q4, q5, Q, q6, q7, rfl⟩ := erep_lit hf.rep
        have r0 := he.cell 0 (by omega)
        have r1 := he.cell 1 (by omega)
        have r2 := he.cell 2 (by omega)
        have r3 := he.cell 3 (by omega)
        have r4 := he.cell 4 (by omega)
        have r5 := he.cell 5 (by omega)
        have r6 := he.cell 6 (by omega)
        have s0 := hf.cell 0 (by omega)
        have s1 := hf.cell 1 (by omega)
        have s2 := hf.cell 2 (by omega)
        have s3 := hf.cell 3 (by omega)
        have s4 := hf.cell 4 (by omega)
        have s5 := hf.cell 5 (by omega)
        have s6 := hf.cell 6 (by omega)
        have c2 : (k : Int) < (l.length : Int) := by omega
        have c3 : (0 : Int) ≤ (k : Int) := by omega
        have d1 : decide ((k : Int) < (l.length : Int)) = true := decide_eq_true c2
        clear he hf
        generalize l[k] = x at HE HF HDk
        simp only [List.getElem?_cons_zero, List.getElem?_cons_succ, Nat.add_zero] at r0 r1 r2 r3 r4 r5 r6 s0 s1 s2 s3 s4 s5 s6
        go_upto_region 6 with (fail)
        go_still_tail 10, (by kernel_rfl)
        change wpList _ _ _ _ _ (wr.drewN 1)
        have hb3 := hb.trans ((belowD wr 1).mono hb.size)
        replace HE := Lib.hid (goodE.below HE.out (belowD wr 1))
        replace HF := Lib.hid (goodE.below HF.out (belowD wr 1))
        clear r0 r1 r2 r3 r4 r5 r6 s0 s1 s2 s3 s4 s5 s6 b6 x6 hb
        generalize wr.drewN 1 = w3 at hb3 HE HF ⊢
        go_wp2_with fail
        refine (HI.out x HDk.out _ _ w3 F G HE.out HF.out).mono ?_
        rintro e' w4 ⟨rfl, hw4⟩
        have hb4 := hb3.trans (hw4.mono hb3.size)
        clear hb3 hw4 HE HF
        go_wp2_with fail
        go_roundw
        case rel => exact ⟨k + 1, ⟨by omega, by go_num, hb4⟩⟩
        case measure => simp [intOf]; omega
      · obtain rfl : k = l.length := by omega
        have HB := Lib.hid (hw1.trans (hb.mono hw1.size))
        have d1 : decide ((l.length : Int) < (l.length : Int)) = false := decide_eq_false (by omega)
        clear hb
        go_wp2_with fail
        go_ret
        exact ⟨rfl, HB.out⟩
theorem sameE {e : E} {cs ds : List Value} {w : World} {F G : Nat → Prop} (h1 : ERep w F e cs) (h2 : ERep w G e ds) :
    Calls Tryz.prog 19 #[.agg cs.toArray, .agg ds.toArray] w fun e' w' => e' = .returned (.bool true) ∧ Below w.heap.size w w' := sameE_call _ e (Nat.le_refl _) cs ds w F G h1 h2
end Go.Proofs.YtpmncgbpbcgfaaaGreatDoor

/-
  The reference's comparison of lists of expressions and of integers, at equal values.
-/
namespace Go.Proofs.YtpmncgbpbcgfaaaGreatDoor
open Go.RowKit
set_option linter.unusedVariables false
set_option linter.unusedSimpArgs false

set_option maxHeartbeats 4000000 in
set_option maxRecDepth 100000 in
theorem listE_call (l : List E) (v u : Value) (w : World) (F G : Nat → Prop) (h1 : LRep 7 ERep w F l v) (h2 : LRep 7 ERep w G l u) :
    Calls Tryz.prog 39 #[v, u] w fun e' w' => e' = .returned (.bool true) ∧ Below w.heap.size w w' := by
  obtain ⟨A, c, rfl⟩ := h1.form
  obtain ⟨B, c', rfl⟩ := h2.form
  have hlen := h1.len_le
  unfold maxLen at hlen
  have HL := Lib.hid h1
  have HM := Lib.hid h2
  clear h1 h2
  go_enter Tryz.func39, Tryz.ntmps39
  go_wp2_with fail
  go_loopw [5] (fun c5 wr => ∃ k, LoopAt w l.length k c5 wr) (fun c5 _ => l.length - (intOf c5).toNat)
  case atStart => exact ⟨0, ⟨Nat.zero_le _, rfl, Below.refl _ _⟩⟩
  case round =>
    obtain ⟨k, ⟨hk, rfl, hb⟩⟩ := hrel
    by_cases hlt : k < l.length
    · obtain ⟨g, us, he⟩ := HL.out.at_ hlt
      obtain ⟨g', vs, hf⟩ := HM.out.at_ hlt
      obtain rfl := he.addr
      obtain rfl := hf.addr
      replace he := he.below goodE (hb.mono (Nat.le_refl _))
      replace hf := hf.below goodE (hb.mono (Nat.le_refl _))
      have HE := Lib.hid he.rep
      have HF := Lib.hid hf.rep
      obtain ⟨p0, p1, p2, p3, p4, p5, P, p6, p7, rfl⟩ := erep_lit he.rep
      obtain ⟨q0, q1, q2, q3, q4, q5, Q, q6, q7, rfl⟩ := erep_lit hf.rep
      have r0 := he.cell 0 (by omega)
      have r1 := he.cell 1 (by omega)
      have r2 := he.cell 2 (by omega)
      have r3 := he.cell 3 (by omega)
      have r4 := he.cell 4 (by omega)
      have r5 := he.cell 5 (by omega)
      have r6 := he.cell 6 (by omega)
      have s0 := hf.cell 0 (by omega)
      have s1 := hf.cell 1 (by omega)
      have s2 := hf.cell 2 (by omega)
      have s3 := hf.cell 3 (by omega)
      have s4 := hf.cell 4 (by omega)
      have s5 := hf.cell 5 (by omega)
      have s6 := hf.cell 6 (by omega)
      have c2 : (k : Int) < (l.length : Int) := by omega
      have c3 : (0 : Int) ≤ (k : Int) := by omega
      have d1 : decide ((k : Int) < (l.length : Int)) = true := decide_eq_true c2
      clear he hf
      generalize l[k] = x at HE HF
      simp only [List.getElem?_cons_zero, List.getElem?_cons_succ, Nat.add_zero] at r0 r1 r2 r3 r4 r5 r6 s0 s1 s2 s3 s4 s5 s6
      go_upto_region 6 with (fail)
      go_still_tail 8, (by kernel_rfl)
      change wpList _ _ _ _ _ (wr.drewN 1)
      have hb3 := hb.trans ((belowD wr 1).mono hb.size)
      replace HE := Lib.hid (goodE.below HE.out (belowD wr 1))
      replace HF := Lib.hid (goodE.below HF.out (belowD wr 1))
      clear r0 r1 r2 r3 r4 r5 r6 s0 s1 s2 s3 s4 s5 s6 hb
      generalize wr.drewN 1 = w3 at hb3 HE HF ⊢
      go_wp2_with fail
      refine (sameE HE.out HF.out).mono ?_
      rintro e' w4 ⟨rfl, hw4⟩
      have hb4 := hb3.trans (hw4.mono hb3.size)
      clear hb3 hw4 HE HF
      go_wp2_with fail
      go_roundw
      case rel => exact ⟨k + 1, ⟨by omega, by go_num, hb4⟩⟩
      case measure => simp [intOf]; omega
    · obtain rfl : k = l.length := by omega
      have HB := Lib.hid hb
      have d1 : decide ((l.length : Int) < (l.length : Int)) = false := decide_eq_false (by omega)
      clear hb
      go_wp2_with fail
      go_ret
      exact ⟨rfl, HB.out⟩
set_option maxHeartbeats 4000000 in
set_option maxRecDepth 100000 in
theorem ints_call (l : List Nat) (v u : Value) (w : World) (F G : Nat → Prop) (h1 : LRep 1 (FlatR intCells) w F l v) (h2 : LRep 1 (FlatR intCells) w G l u) :
    Calls Tryz.prog 40 #[v, u] w fun e' w' => e' = .returned (.bool true) ∧ Below w.heap.size w w' := by
  obtain ⟨A, c, rfl⟩ := h1.form
  obtain ⟨B, c', rfl⟩ := h2.form
  have hlen := h1.len_le
  unfold maxLen at hlen
  have HL := Lib.hid h1
  have HM := Lib.hid h2
  clear h1 h2
  go_enter Tryz.func40, Tryz.ntmps40
  go_wp2_with fail
  go_loopw [5] (fun c5 wr => ∃ k, LoopAt w l.length k c5 wr) (fun c5 _ => l.length - (intOf c5).toNat)
  case atStart => exact ⟨0, ⟨Nat.zero_le _, rfl, Below.refl _ _⟩⟩
  case round =>
    obtain ⟨k, ⟨hk, rfl, hb⟩⟩ := hrel
    by_cases hlt : k < l.length
    · obtain ⟨g, us, he⟩ := HL.out.at_ hlt
      obtain ⟨g', vs, hf⟩ := HM.out.at_ hlt
      obtain rfl := he.addr
      obtain rfl := hf.addr
      replace he := he.below goodInt (hb.mono (Nat.le_refl _))
      replace hf := hf.below goodInt (hb.mono (Nat.le_refl _))
      have r0 := he.cell 0 (by omega)
      have s0 := hf.cell 0 (by omega)
      rw [he.rep] at r0
      rw [hf.rep] at s0
      have c2 : (k : Int) < (l.length : Int) := by omega
      have c3 : (0 : Int) ≤ (k : Int) := by omega
      have d1 : decide ((k : Int) < (l.length : Int)) = true := decide_eq_true c2
      clear he hf
      generalize l[k] = x at r0 s0
      unfold intCells natV at r0 s0
      simp only [List.getElem?_cons_zero, Nat.add_zero, Nat.mul_one] at r0 s0
      go_upto_region 6 with (fail)
      go_quiet (fail)
      refine name_drew (K := Exit.then _ _ _ _) fun w3 hw3 hz3 => ?_
      have hb4 := hb.trans (hw3.mono hb.size)
      clear hw3 hb r0 s0
      go_wp2_with fail
      go_roundw
      case rel => exact ⟨k + 1, ⟨by omega, by go_num, hb4⟩⟩
      case measure => simp [intOf]; omega
    · obtain rfl : k = l.length := by omega
      have HB := Lib.hid hb
      have d1 : decide ((l.length : Int) < (l.length : Int)) = false := decide_eq_false (by omega)
      clear hb
      go_wp2_with fail
      go_ret
      exact ⟨rfl, HB.out⟩
end Go.Proofs.YtpmncgbpbcgfaaaGreatDoor

/-
  The reference's depth of expressions; lists of expressions that are not too deep.
-/
namespace Go.Proofs.YtpmncgbpbcgfaaaGreatDoor
open Go.RowKit
set_option linter.unusedVariables false
set_option linter.unusedSimpArgs false

theorem depL_snoc : ∀ (l : List E) (k : Nat) (hk : k < l.length), E.depL (l.take (k + 1)) = max (E.depL (l.take k)) (E.dep l[k])
  | e :: l, 0, _ => by simp [E.depL]
  | e :: l, k + 1, hk => by
    have := depL_snoc l k (by simpa using hk)
    simp only [List.take_succ_cons, E.depL, List.getElem_cons_succ]
    rw [this]
    omega
theorem depL_take : ∀ (l : List E) (k : Nat), E.depL (l.take k) ≤ E.depL l
  | [], k => by simp [E.depL]
  | e :: l, 0 => by simp [E.depL]
  | e :: l, k + 1 => by
    have := depL_take l k
    simp only [List.take_succ_cons, E.depL]
    omega
structure DepAt (w : World) (l : List E) (k : Nat) (c3 c4 : Value) (wr : World) : Prop where
  le : k ≤ l.length
  c3 : c3 = .int .i64 ((E.depL (l.take k) : Nat) : Int)
  c4 : c4 = .int .i64 (k : Int)
  bel : Below w.heap.size w wr
set_option maxHeartbeats 4000000 in
set_option maxRecDepth 100000 in
theorem depthR_call : ∀ (n : Nat), n ≤ 1000 → ∀ (e : E), E.dep e ≤ n → ∀ (cs : List Value) (w : World) (F : Nat → Prop), ERep w F e cs →
    Calls Tryz.prog 23 #[.agg cs.toArray] w fun e' w' => e' = .returned (.int .i64 ((E.dep e : Nat) : Int)) ∧ Below w.heap.size w w'
  | 0, _, e, h => absurd (dep_pos e) (by omega)
  | n + 1, hn, .mk op int v name l, h => by
    intro cs w F h1
    have HI := Lib.hid (depthR_call n (by omega))
    have hdl : E.depL l ≤ n := by simp only [E.dep] at h; omega
    have HX : Hid (E.dep (.mk op int v name l) = 1 + E.depL l) := Lib.hid (by simp only [E.dep])
    obtain ⟨a, rfl, hl⟩ := erep_iff.1 h1
    obtain ⟨A, c, rfl⟩ := hl.form
    have hlen := hl.len_le
    unfold maxLen at hlen
    have HL := Lib.hid hl
    rw [HX.out]
    clear h h1 hl HX
    unfold eCells strV
    go_enter Tryz.func23, Tryz.ntmps23
    go_upto_region 1 with (fail)
    refine name_alloc (K := Code.wp _ _ _ _) fun w1 hB hw1 hz1 => ?_
    replace HL := Lib.hid (HL.out.kept goodE fun b _ hl => hw1.block b hl)
    go_wp2_with fail
    go_loopw [3, 4] (fun c3 c4 wr => ∃ k, DepAt w1 l k c3 c4 wr) (fun _ c4 _ => l.length - (intOf c4).toNat)
    case atStart => exact ⟨0, ⟨Nat.zero_le _, rfl, rfl, Below.refl _ _⟩⟩
    case round =>
      obtain ⟨k, ⟨hk, rfl, rfl, hb⟩⟩ := hrel
      have b6 := (hb.cell (p := ⟨w.heap.size, 6, none⟩) (by show w.heap.size < _; omega)).trans (hB.cell 6 rfl)
      have hdk := depL_take l k
      by_cases hlt : k < l.length
      · have HS := Lib.hid (depL_snoc l k hlt)
        have hdx : E.dep l[k] ≤ n := Nat.le_trans (depL_at l k hlt) hdl
        obtain ⟨g, us, he⟩ := HL.out.at_ hlt
        obtain rfl := he.addr
        replace he := he.below goodE (hb.mono (Nat.le_refl _))
        have HE := Lib.hid he.rep
        obtain ⟨p0, p1, p2, p3, p4, p5, P, p6, p7, rfl⟩ := erep_lit he.rep
        have r0 := he.cell 0 (by omega)
        have r1 := he.cell 1 (by omega)
        have r2 := he.cell 2 (by omega)
        have r3 := he.cell 3 (by omega)
        have r4 := he.cell 4 (by omega)
        have r5 := he.cell 5 (by omega)
        have r6 := he.cell 6 (by omega)
        have c2 : (k : Int) < (l.length : Int) := by omega
        have c3 : (0 : Int) ≤ (k : Int) := by omega
        have d1 : decide ((k : Int) < (l.length : Int)) = true := decide_eq_true c2
        clear he
        generalize l[k] = x at HE HS hdx
        simp only [List.getElem?_cons_zero, List.getElem?_cons_succ, Nat.add_zero] at r0 r1 r2 r3 r4 r5 r6
        go_wp2_with fail
        have hc := HI.out x hdx _ wr F HE.out
        refine hc.mono ?_
        rintro e' w4 ⟨rfl, hw4⟩
        have hb4 := hb.trans (hw4.mono hb.size)
        clear hc hb hw4 r0 r1 r2 r3 r4 r5 r6 b6 HE
        generalize E.dep x = q at HS hdx
        generalize E.depL (l.take k) = nk at HS hdk
        go_wp2_with fail
        go_roundw
        case rel => exact ⟨k + 1, ⟨by omega, by rw [HS.out]; congr 1; omega, by go_num, hb4⟩⟩
        case measure => simp [intOf]; omega
      · obtain rfl : k = l.length := by omega
        rw [List.take_length] at hdk ⊢
        have HB := Lib.hid (hw1.trans (hb.mono hw1.size))
        have d1 : decide ((l.length : Int) < (l.length : Int)) = false := decide_eq_false (by omega)
        generalize hq : E.depL l = q at hdk hdl
        have HQ := Lib.hid hq
        clear hq
        have e1 : IntKind.i64.wrap ((q : Int) + 1) = 1 + (q : Int) := by rw [IntWalk.i64_in _ (by omega)]; omega
        clear hb
        go_wp2_with fail
        go_ret
        exact ⟨congrArg (fun z => Ending.returned (.int .i64 z)) (show 1 + (q : Int) = ((1 + E.depL l : Nat) : Int) by have := HQ.out; omega), HB.out⟩
set_option maxHeartbeats 4000000 in
set_option maxRecDepth 100000 in
theorem DepthR_call (e : E) (hd : E.dep e ≤ 24) (cs : List Value) (w : World) (F : Nat → Prop) (h1 : ERep w F e cs) :
    Calls Tryz.prog 10 #[.agg cs.toArray] w fun e' w' => e' = .returned (.int .i64 ((E.dep e : Nat) : Int)) ∧ Below w.heap.size w w' := by
  have HR := Lib.hid h1
  obtain ⟨p0, p1, p2, p3, p4, p5, P, p6, p7, rfl⟩ := erep_lit h1
  clear h1
  go_enter Tryz.func10, Tryz.ntmps10
  go_upto_region 1 with (fail)
  refine name_alloc (K := Code.wp _ _ _ _) fun w1 hB hw1 hz1 => ?_
  have b0 := hB.cell 0 rfl
  have b1 := hB.cell 1 rfl
  have b2 := hB.cell 2 rfl
  have b3 := hB.cell 3 rfl
  have b4 := hB.cell 4 rfl
  have b5 := hB.cell 5 rfl
  have b6 := hB.cell 6 rfl
  go_wp2_with fail
  refine (depthR_call 24 (by omega) e hd _ w1 F (goodE.below HR.out hw1)).mono ?_
  rintro e' w2 ⟨rfl, hw2⟩
  have HB := Lib.hid (hw1.trans (hw2.mono hw1.size))
  clear hw1 hw2 hB HR b0 b1 b2 b3 b4 b5 b6
  generalize hq : E.dep e = q at hd
  have HQ := Lib.hid hq
  clear hq
  have e3 : min (q : Int) 25 = (q : Int) := by omega
  go_wp2_with fail
  go_ret
  exact ⟨by rw [HQ.out]; rfl, HB.out⟩
/-- a list of expressions none of which is too deep -/
theorem deep_call (l : List E) (hd : ∀ e ∈ l, E.dep e ≤ 24) (v : Value) (w : World) (F : Nat → Prop) (h1 : LRep 7 ERep w F l v) :
    Calls Tryz.prog 26 #[v] w fun e' w' => e' = .returned (.bool false) ∧ Below w.heap.size w w' := by
  obtain ⟨A, c, rfl⟩ := h1.form
  have hlen := h1.len_le
  unfold maxLen at hlen
  have HL := Lib.hid h1
  have HD := Lib.hid hd
  clear h1 hd
  go_enter Tryz.func26, Tryz.ntmps26
  go_wp2_with fail
  go_loopw [3] (fun c5 wr => ∃ k, LoopAt w l.length k c5 wr) (fun c5 _ => l.length - (intOf c5).toNat)
  case atStart => exact ⟨0, ⟨Nat.zero_le _, rfl, Below.refl _ _⟩⟩
  case round =>
    obtain ⟨k, ⟨hk, rfl, hb⟩⟩ := hrel
    by_cases hlt : k < l.length
    · obtain ⟨g, us, he⟩ := HL.out.at_ hlt
      obtain rfl := he.addr
      replace he := he.below goodE (hb.mono (Nat.le_refl _))
      have HE := Lib.hid he.rep
      have hdx := HD.out l[k] (List.getElem_mem hlt)
      obtain ⟨p0, p1, p2, p3, p4, p5, P, p6, p7, rfl⟩ := erep_lit he.rep
      have r0 := he.cell 0 (by omega)
      have r1 := he.cell 1 (by omega)
      have r2 := he.cell 2 (by omega)
      have r3 := he.cell 3 (by omega)
      have r4 := he.cell 4 (by omega)
      have r5 := he.cell 5 (by omega)
      have r6 := he.cell 6 (by omega)
      have c2 : (k : Int) < (l.length : Int) := by omega
      have c3 : (0 : Int) ≤ (k : Int) := by omega
      have d1 : decide ((k : Int) < (l.length : Int)) = true := decide_eq_true c2
      clear he
      generalize l[k] = x at HE hdx
      simp only [List.getElem?_cons_zero, List.getElem?_cons_succ, Nat.add_zero] at r0 r1 r2 r3 r4 r5 r6
      go_wp2_with fail
      refine (DepthR_call x hdx _ wr F HE.out).mono ?_
      rintro e' w4 ⟨rfl, hw4⟩
      have hb4 := hb.trans (hw4.mono hb.size)
      clear hb hw4 HE r0 r1 r2 r3 r4 r5 r6
      generalize E.dep x = q at hdx
      have d2 : decide ((24 : Int) < (q : Int)) = false := decide_eq_false (by omega)
      go_wp2_with fail
      go_roundw
      case rel => exact ⟨k + 1, ⟨by omega, by go_num, hb4⟩⟩
      case measure => simp [intOf]; omega
    · obtain rfl : k = l.length := by omega
      have HB := Lib.hid hb
      have d1 : decide ((l.length : Int) < (l.length : Int)) = false := decide_eq_false (by omega)
      clear hb
      go_wp2_with fail
      go_ret
      exact ⟨rfl, HB.out⟩
end Go.Proofs.YtpmncgbpbcgfaaaGreatDoor

/-
  Laws for the reference's walks over great structs: a copy of an argument, a slice of one struct, an operation whose guard is met; single cells of queries, selects and statements.
-/
namespace Go.Proofs.YtpmncgbpbcgfaaaGreatDoor
open Go.RowKit
set_option linter.unusedVariables false
set_option linter.unusedSimpArgs false

section
variable {P : Program} {ops : Array Oper} {rest : List Oper} {o : Oper} {a : Act} {w : World} {Q : Exit → Act → World → Prop}
/-- a copy of a struct in a new block -/
theorem box_new (hg : o.guard = none) (t : TypeId) (x : Operand) (ho : o.op = .box t x) (cs : List Value) (hx : a.eval x = .agg cs.toArray)
    (h : ∀ w', Blk w' w.heap.size cs t → Below w.heap.size w w' → w'.heap.size = w.heap.size + 1 → wpList P ops Q rest (a.put o.dst (.pointer (some ⟨w.heap.size, 0, none⟩))) w') : wpList P ops Q (o :: rest) a w :=
  Go.Great.wpList_boxTo hg t x ho _ rfl _ rfl cs.toArray (by rw [hx]; rfl) (h _ (Blk.new w cs t) (below1 _ _) (by simp))
/-- a slice of one struct -/
theorem build_one (hg : o.guard = none) (t e : TypeId) (k1 : Tmp) (ho : o.op = .buildSlice t 1 #[(0, .tmp k1)]) (s : Nat) (cs : List Value) (h1 : a.eval (.tmp k1) = .agg cs.toArray)
    (hu : P.underlying t = some (.slice e)) (hsz : (P.info? e).map (·.size) = some s) (hz : ((P.info? e).bind (·.zero)).isSome = true) (hs : 0 < s) (hs' : s ≤ 1000) (l1 : cs.length = s)
    (h : ∀ w', Blk w' w.heap.size cs e → Below w.heap.size w w' → w'.heap.size = w.heap.size + 1 → wpList P ops Q rest (a.put o.dst (.slice (some ⟨w.heap.size, 0, none⟩) 1 1)) w') : wpList P ops Q (o :: rest) a w := by
  refine Go.Great.wpList_buildRows hg t e _ s [.agg cs.toArray] ho (fun i => k1) _ rfl _ rfl hu hsz hz hs (by simp) (by simp; omega) rfl ?_ ?_ ?_
  · intro v hv
    simp at hv
    rw [hv]
    simp [Value.cells, l1]
  · intro i hi
    have : i = 0 := by simpa using hi
    subst this
    simpa using h1
  · have := h _ (Blk.new w cs e) (below1 _ _) (by simp)
    simpa [Value.cells] using this
/-- an operation whose guard is met -/
theorem op_met (hw : Region.wanted o (yielded ops a.tmps) = true) (h : wpList P ops Q ({ o with guard := none } :: rest) a w) : wpList P ops Q (o :: rest) a w :=
  by
    unfold wpList at h ⊢
    rw [if_pos (by simp [Region.wanted])] at h
    rw [if_pos hw]
    exact h
end
section
variable {w : World} {g : Nat} {t : TypeId}
/-- the cells of a query -/
structure QCells (w : World) (g op : Nat) (all : Bool) (ss : List Value) (va vo : Value) (l : Int) : Prop where
  c0 : w.cell? ⟨g, 0, none⟩ = some (.int .i64 (op : Int))
  c1 : w.cell? ⟨g, 1, none⟩ = some (.bool all)
  sel : w.rangeAt g 2 ss
  args : w.cell? ⟨g, 20, none⟩ = some va
  ord : w.cell? ⟨g, 21, none⟩ = some vo
  lim : w.cell? ⟨g, 22, none⟩ = some (.int .i64 l)
theorem QCells.mk' {op : Nat} {all : Bool} {ss : List Value} {va vo : Value} {l : Int} (h : Blk w g (qCells op all ss va vo l) t) (hs : ss.length = 18) : QCells w g op all ss va vo l := by
  refine ⟨h.cell 0 rfl, h.cell 1 rfl, h.part (pre := [natV op, .bool all]), h.cell 20 ?_, h.cell 21 ?_, h.cell 22 ?_⟩
  all_goals
    unfold qCells
    rw [List.getElem?_append_right (by simp), List.getElem?_append_right (by simp [hs])]
    simp [hs]
/-- the cells of a select -/
structure SCells (w : World) (g : Nat) (a : Sel) (vi vj vg : Value) (es : List Value) : Prop where
  c0 : w.cell? ⟨g, 0, none⟩ = some (.bool a.distinct)
  items : w.cell? ⟨g, 1, none⟩ = some vi
  src : w.rangeAt g 2 (srcCells a.src)
  joins : w.cell? ⟨g, 8, none⟩ = some vj
  has : w.cell? ⟨g, 9, none⟩ = some (.bool a.hasWhere)
  cond : w.rangeAt g 10 es
  group : w.cell? ⟨g, 17, none⟩ = some vg
theorem SCells.mk' {a : Sel} {vi vj vg : Value} {es : List Value} (h : Blk w g (selCells a vi vj vg es) t) (hs : es.length = 7) : SCells w g a vi vj vg es := by
  have h10 : Blk w g (([.bool a.distinct, vi] ++ (srcCells a.src ++ [vj, .bool a.hasWhere])) ++ (es ++ [vg])) t := by
    have : (([.bool a.distinct, vi] ++ (srcCells a.src ++ [vj, .bool a.hasWhere])) ++ (es ++ [vg])) = selCells a vi vj vg es := by simp [selCells]
    rw [this]; exact h
  refine ⟨h.cell 0 rfl, h.cell 1 rfl, h.part (pre := [.bool a.distinct, vi]), h.cell 8 rfl, h.cell 9 rfl, h10.part, h10.cell 17 ?_⟩
  rw [List.getElem?_append_right (by simp [srcCells]), List.getElem?_append_right (by simp [srcCells, hs])]
  simp [srcCells, hs]
theorem part_at {pre cs all : List Value} {k : Nat} (h : Blk w g all t) (he : ∃ post, all = pre ++ (cs ++ post)) (hp : pre.length = k) : w.rangeAt g k cs := by
  obtain ⟨post, rfl⟩ := he
  subst hp
  exact h.part
theorem cell_at {pre all : List Value} {v : Value} {k : Nat} (h : Blk w g all t) (he : ∃ post, all = pre ++ (v :: post)) (hp : pre.length = k) : w.cell? ⟨g, k, none⟩ = some v := by
  obtain ⟨post, rfl⟩ := he
  subst hp
  refine h.cell _ ?_
  rw [List.getElem?_append_right (Nat.le_refl _), Nat.sub_self]
  rfl
/-- the cells of a statement -/
structure TCells (w : World) (g : Nat) (a : Stm) (qs : List Value) (vr vs : Value) (es : List Value) (vc vk vf vh : Value) : Prop where
  kind : w.cell? ⟨g, 0, none⟩ = some (.int .i64 (a.kind : Int))
  mode : w.cell? ⟨g, 1, none⟩ = some (.int .i64 (a.mode : Int))
  v0 : w.cell? ⟨g, 2, none⟩ = some (.int .i64 (a.valid.1 : Int))
  v1 : w.cell? ⟨g, 3, none⟩ = some (.int .i64 (a.valid.2 : Int))
  query : w.rangeAt g 4 qs
  name : w.cell? ⟨g, 27, none⟩ = some (strV a.name)
  rows : w.cell? ⟨g, 28, none⟩ = some vr
  sets : w.cell? ⟨g, 29, none⟩ = some vs
  has : w.cell? ⟨g, 30, none⟩ = some (.bool a.hasWhere)
  cond : w.rangeAt g 31 es
  table : w.rangeAt g 38 (tblCells a.table vc vk vf)
  tchecks : w.cell? ⟨g, 42, none⟩ = some (.slice none 0 0)
  checks : w.cell? ⟨g, 43, none⟩ = some vh
  change : w.rangeAt g 44 (chgCells a.change)
  hold : w.rangeAt g 53 (hldCells a.hold)
  number : w.cell? ⟨g, 59, none⟩ = some (.int .i64 (a.number : Int))
theorem TCells.mk' {a : Stm} {qs : List Value} {vr vs : Value} {es : List Value} {vc vk vf vh : Value} (h : Blk w g (stmCells a qs vr vs es vc vk vf vh) t) (hq : qs.length = 23) (hs : es.length = 7) : TCells w g a qs vr vs es vc vk vf vh := by
  have k0 : ([natV a.kind, natV a.mode, natV a.valid.1, natV a.valid.2] : List Value).length = 4 := rfl
  have k1 : ([natV a.kind, natV a.mode, natV a.valid.1, natV a.valid.2] ++ qs : List Value).length = 27 := by simp [hq]
  have k2 : ([natV a.kind, natV a.mode, natV a.valid.1, natV a.valid.2] ++ qs ++ [strV a.name] : List Value).length = 28 := by simp [hq]
  have k3 : ([natV a.kind, natV a.mode, natV a.valid.1, natV a.valid.2] ++ qs ++ [strV a.name, vr] : List Value).length = 29 := by simp [hq]
  have k4 : ([natV a.kind, natV a.mode, natV a.valid.1, natV a.valid.2] ++ qs ++ [strV a.name, vr, vs] : List Value).length = 30 := by simp [hq]
  have k5 : ([natV a.kind, natV a.mode, natV a.valid.1, natV a.valid.2] ++ qs ++ [strV a.name, vr, vs, .bool a.hasWhere] : List Value).length = 31 := by simp [hq]
  have k6 : ([natV a.kind, natV a.mode, natV a.valid.1, natV a.valid.2] ++ qs ++ [strV a.name, vr, vs, .bool a.hasWhere] ++ es : List Value).length = 38 := by simp [hq, hs]
  have k7 : ([natV a.kind, natV a.mode, natV a.valid.1, natV a.valid.2] ++ qs ++ [strV a.name, vr, vs, .bool a.hasWhere] ++ es ++ [strV a.table.name, vc, vk, vf] : List Value).length = 42 := by simp [hq, hs]
  have k8 : ([natV a.kind, natV a.mode, natV a.valid.1, natV a.valid.2] ++ qs ++ [strV a.name, vr, vs, .bool a.hasWhere] ++ es ++ tblCells a.table vc vk vf : List Value).length = 43 := by simp [hq, hs, tblCells]
  have k9 : ([natV a.kind, natV a.mode, natV a.valid.1, natV a.valid.2] ++ qs ++ [strV a.name, vr, vs, .bool a.hasWhere] ++ es ++ tblCells a.table vc vk vf ++ [vh] : List Value).length = 44 := by simp [hq, hs, tblCells]
  have k10 : ([natV a.kind, natV a.mode, natV a.valid.1, natV a.valid.2] ++ qs ++ [strV a.name, vr, vs, .bool a.hasWhere] ++ es ++ tblCells a.table vc vk vf ++ [vh] ++ chgCells a.change : List Value).length = 53 := by simp [hq, hs, tblCells, chgCells, colCells, vCells]
  have k11 : ([natV a.kind, natV a.mode, natV a.valid.1, natV a.valid.2] ++ qs ++ [strV a.name, vr, vs, .bool a.hasWhere] ++ es ++ tblCells a.table vc vk vf ++ [vh] ++ chgCells a.change ++ hldCells a.hold : List Value).length = 59 := by simp [hq, hs, tblCells, chgCells, colCells, vCells, hldCells]
  refine ⟨h.cell 0 rfl, h.cell 1 rfl, h.cell 2 rfl, h.cell 3 rfl, part_at h ?_ k0, cell_at h ?_ k1, cell_at h ?_ k2, cell_at h ?_ k3, cell_at h ?_ k4, part_at h ?_ k5, part_at h ?_ k6, cell_at h ?_ k7, cell_at h ?_ k8, part_at h ?_ k9, part_at h ?_ k10, cell_at h ?_ k11⟩
  all_goals (apply Exists.intro; simp only [stmCells, tblCells, List.append_assoc, List.cons_append, List.nil_append]; rfl)
end
end Go.Proofs.YtpmncgbpbcgfaaaGreatDoor

/-
  The reference's depth of queries, and queries none of whose expressions is too deep.
-/
namespace Go.Proofs.YtpmncgbpbcgfaaaGreatDoor
open Go.RowKit
set_option linter.unusedVariables false
set_option linter.unusedSimpArgs false

theorem qdep_pos (q : Qry) : 1 ≤ Qry.dep q := by cases q; simp only [Qry.dep]; omega
theorem qdepL_at : ∀ (l : List Qry) (k : Nat) (hk : k < l.length), Qry.dep l[k] ≤ Qry.depL l
  | e :: l, 0, _ => by simp only [Qry.depL, List.getElem_cons_zero]; omega
  | e :: l, k + 1, hk => by
    have := qdepL_at l k (by simpa using hk)
    simp only [Qry.depL, List.getElem_cons_succ]
    omega
theorem qdepL_snoc : ∀ (l : List Qry) (k : Nat) (hk : k < l.length), Qry.depL (l.take (k + 1)) = max (Qry.depL (l.take k)) (Qry.dep l[k])
  | e :: l, 0, _ => by simp [Qry.depL]
  | e :: l, k + 1, hk => by
    have := qdepL_snoc l k (by simpa using hk)
    simp only [List.take_succ_cons, Qry.depL, List.getElem_cons_succ]
    rw [this]
    omega
theorem qdepL_take : ∀ (l : List Qry) (k : Nat), Qry.depL (l.take k) ≤ Qry.depL l
  | [], k => by simp [Qry.depL]
  | e :: l, 0 => by simp [Qry.depL]
  | e :: l, k + 1 => by
    have := qdepL_take l k
    simp only [List.take_succ_cons, Qry.depL]
    omega
structure DepQAt (w : World) (l : List Qry) (k : Nat) (c3 c4 : Value) (wr : World) : Prop where
  le : k ≤ l.length
  c3 : c3 = .int .i64 ((Qry.depL (l.take k) : Nat) : Int)
  c4 : c4 = .int .i64 (k : Int)
  bel : Below w.heap.size w wr
set_option maxHeartbeats 4000000 in
set_option maxRecDepth 100000 in
theorem depthQ_call : ∀ (n : Nat), n ≤ 1000 → ∀ (q : Qry), QOk q → Qry.dep q ≤ n → ∀ (cs : List Value) (w : World) (F : Nat → Prop), QRep w F q cs →
    Calls Tryz.prog 24 #[.agg cs.toArray] w fun e' w' => e' = .returned (.int .i64 ((Qry.dep q : Nat) : Int)) ∧ Below w.heap.size w w'
  | 0, _, q, _, h => absurd (qdep_pos q) (by omega)
  | n + 1, hn, .mk op all s l o lim, hok, h => by
    intro cs w F h1
    have HI := Lib.hid (depthQ_call n (by omega))
    have hdl : Qry.depL l ≤ n := by simp only [Qry.dep] at h; omega
    have HX : Hid (Qry.dep (.mk op all s l o lim) = 1 + Qry.depL l) := Lib.hid (by simp only [Qry.dep])
    have hok2 : (∀ a ∈ l, QOk a) ∧ (op = 0 → l = []) := by cases hok with | mk a b c => exact ⟨b, c⟩
    have HOK := Lib.hid hok2.1
    have hop := hok2.2
    obtain ⟨ss, va, vo, rfl, hs, hl, ho⟩ := qrep_iff.1 h1
    obtain ⟨A, c, rfl⟩ := hl.form
    have hlen := hl.len_le
    unfold maxLen at hlen
    have HL := Lib.hid hl
    have HSL := Lib.hid (goodSel.len hs)
    rw [HX.out]
    clear h h1 hl HX hok hok2 hs ho
    go_enter Tryz.func24, Tryz.ntmps24
    go_wp2_with (refine box_new rfl 40 (.tmp 0) rfl (qCells op all ss (.slice A l.length c) vo lim) rfl ?_)
    intro w1 hB hw1 hz1
    have HC := Lib.hid (QCells.mk' hB HSL.out)
    replace HL := Lib.hid (HL.out.kept goodQ fun b _ hl => hw1.block b hl)
    go_wp2_with fail
    go_loopw [3, 4] (fun c3 c4 wr => ∃ k, DepQAt w1 l k c3 c4 wr) (fun _ c4 _ => l.length - (intOf c4).toNat)
    case atStart => exact ⟨0, ⟨Nat.zero_le _, rfl, rfl, Below.refl _ _⟩⟩
    case round =>
      obtain ⟨k, ⟨hk, rfl, rfl, hb⟩⟩ := hrel
      have b0 := (hb.cell (p := ⟨w.heap.size, 0, none⟩) (by show w.heap.size < _; omega)).trans HC.out.c0
      have b6 := (hb.cell (p := ⟨w.heap.size, 20, none⟩) (by show w.heap.size < _; omega)).trans HC.out.args
      have hdk := qdepL_take l k
      by_cases hlt : k < l.length
      · have HS := Lib.hid (qdepL_snoc l k hlt)
        have hdx : Qry.dep l[k] ≤ n := Nat.le_trans (qdepL_at l k hlt) hdl
        have HOx := Lib.hid (HOK.out l[k] (List.getElem_mem hlt))
        have hop0 : op ≠ 0 := fun e => by have := hop e; subst this; simp at hlt
        obtain ⟨g, us, he⟩ := HL.out.at_ hlt
        obtain rfl := he.addr
        replace he := he.below goodQ (hb.mono (Nat.le_refl _))
        have HE := Lib.hid he.rep
        have HU := Lib.hid (goodQ.len he.rep)
        have HR := Lib.hid (he.range goodQ)
        have c2 : (k : Int) < (l.length : Int) := by omega
        have c3 : (0 : Int) ≤ (k : Int) := by omega
        have d1 : decide ((k : Int) < (l.length : Int)) = true := decide_eq_true c2
        have d2 : ((op : Int) != 0) = true := by rw [bne_iff_ne]; omega
        clear he hop
        generalize l[k] = x at HE HS hdx HOx
        go_wp2_with (refine wpList_load_mid rfl 40 (.tmp 21) rfl g (k * 23) rfl us _ HR.out Tryz.underlying40 rfl (by rw [HU.out]; kernel_rfl) ?_)
        have hc := HI.out x HOx.out hdx _ wr F HE.out
        refine hc.mono ?_
        rintro e' w4 ⟨rfl, hw4⟩
        have hb4 := hb.trans (hw4.mono hb.size)
        clear hc hb hw4 b0 b6 HE HR
        generalize Qry.dep x = q at HS hdx
        generalize Qry.depL (l.take k) = nk at HS hdk
        go_wp2_with fail
        go_roundw
        case rel => exact ⟨k + 1, ⟨by omega, by rw [HS.out]; congr 1; omega, by go_num, hb4⟩⟩
        case measure => simp [intOf]; omega
      · obtain rfl : k = l.length := by omega
        rw [List.take_length] at hdk ⊢
        have HB := Lib.hid (hw1.trans (hb.mono hw1.size))
        have d1 : decide ((l.length : Int) < (l.length : Int)) = false := decide_eq_false (by omega)
        generalize hq : Qry.depL l = q at hdk hdl
        have HQ := Lib.hid hq
        clear hq
        have e1 : IntKind.i64.wrap ((q : Int) + 1) = 1 + (q : Int) := by rw [IntWalk.i64_in _ (by omega)]; omega
        clear hb
        go_wp2_with fail
        go_ret
        exact ⟨congrArg (fun z => Ending.returned (.int .i64 z)) (show 1 + (q : Int) = ((1 + Qry.depL l : Nat) : Int) by have := HQ.out; omega), HB.out⟩
end Go.Proofs.YtpmncgbpbcgfaaaGreatDoor
