/-
  The walk of bitemporallaw18.SyntaxDepth: it returns true for every text.
-/
import Derived.Test.YtpmncgbpbcgfaaaGreatDoorSsW
namespace Go.Proofs.YtpmncgbpbcgfaaaGreatDoor
open Go.RowKit
set_option linter.unusedVariables false
set_option linter.unusedSimpArgs false

/-- what a door returns, in short: the value's cells, a place, a code; a value that is in order where the code is 0 -/
structure TwoOut {α : Type} (rep : Rep α) (size : Nat) (ok : α → Prop) (w : World) (e : Ending) (w' : World) (cs : List Value) (i c : Nat) : Prop where
  e : e = .returned (.tuple #[.agg cs.toArray, .int .i64 (i : Int), .int .i64 (c : Int)])
  len : cs.length = size
  one : ∀ u ∈ cs, u.oneCell' = true
  bel : Below w.heap.size w w'
  ok : c = 0 → ∃ a, rep w' (fun _ => True) a cs ∧ ok a
theorem two_of {α : Type} {rep : Rep α} {size : Nat} (G : Good rep size) {zero : List Value} (hz : zero.length = size) (h1 : ∀ u ∈ zero, u.oneCell' = true) {x : Nat → P α} {ok : α → Prop} (hx : ∀ n, Dp ok (x n)) {s : ByteArray} {w w' : World} {e : Ending} (h : TopPost rep zero x s w e w') :
    ∃ cs i c, TwoOut rep size ok w e w' cs i c := by
  obtain ⟨r, hc, ho, hb⟩ := h
  rcases r with ⟨i, c⟩ | T
  · obtain ⟨h0, rfl⟩ := ho
    exact ⟨zero, i, c, ⟨rfl, hz, h1, hb, fun e => by omega⟩⟩
  · unfold TopOut at ho
    dsimp only at ho
    rcases hq : pWhole (x (3 * T.length + 3)) (cores T) with a | _ | ⟨j, c⟩
    · rw [hq] at ho
      obtain ⟨cs, rfl, hr⟩ := ho
      exact ⟨cs, 0, 0, ⟨rfl, G.len hr, G.one hr, hb, fun _ => ⟨a, G.mono hr fun _ _ _ => trivial, whole_ok (hx _) hq⟩⟩⟩
    · rw [hq] at ho
      exact ⟨zero, 0, 26, ⟨ho, hz, h1, hb, fun e => by omega⟩⟩
    · rw [hq] at ho
      obtain ⟨h0, rfl⟩ := ho
      exact ⟨zero, _, c, ⟨rfl, hz, h1, hb, fun e => by omega⟩⟩
theorem expr_two (s : ByteArray) (w : World) (ht : Tab w) : Calls Tryz.prog 9 #[.string s] w fun e w' => ∃ cs i c, TwoOut ERep 7 EOk w e w' cs i c :=
  (expression_call s w ht).mono fun e w' h => two_of goodE rfl (goodE.one (zeroE_rep w (fun _ => True))) Dp.expr h
theorem stm_two (s : ByteArray) (w : World) (ht : Tab w) : Calls Tryz.prog 6 #[.string s] w fun e w' => ∃ cs i c, TwoOut StmRep 60 StmOk w e w' cs i c :=
  (statementT_call s w ht).mono fun e w' h => two_of goodStm rfl (goodStm.one (stmZero_rep w (fun _ => True))) Dp.statement h
set_option maxHeartbeats 8000000 in
set_option maxRecDepth 100000 in
theorem syntaxDepth_walk (s : ByteArray) (w : World) (ht : Tab w) : Calls Tryz.prog 4 #[.string s] w fun e w' => e = .returned (.bool true) ∧ Below w.heap.size w w' := by
  have HT := Lib.hid ht
  clear ht
  go_enter Tryz.func4, Tryz.ntmps4
  go_wp2_with fail
  refine (expr_two s w HT.out).mono ?_
  rintro e w1 ⟨cs, i, c, h1⟩
  obtain rfl := h1.e
  have HL := Lib.hid h1.len
  have HO := Lib.hid h1.one
  have HK := Lib.hid h1.ok
  have hb := h1.bel
  replace HT := Lib.hid (HT.out.below hb)
  clear h1
  go_wp2_with (refine store_new rfl 34 (.tmp 3) (.tmp 12) rfl cs rfl rfl 34 zeroE7 (by rw [HL.out]; kernel_rfl) (by rw [HL.out]; rfl) HO.out ?_)
  intro w2 hB hb2 hz2
  replace HT := Lib.hid (HT.out.below hb2)
  have HK2 : Hid (c = 0 → ∃ a, ERep w2 (fun _ => True) a cs ∧ EOk a) := Lib.hid (fun e => let ⟨a, h1, h2⟩ := HK.out e; ⟨a, goodE.below h1 hb2, h2⟩)
  replace hb := hb.trans (hb2.mono hb.size)
  generalize w1.heap.size = g1 at hB ⊢
  clear HK hb2 hz2
  go_upto_region 2 with (fail)
  go_cut [21] (fun c21 wx => c21 = .bool false ∧ Tab wx ∧ Below w.heap.size w wx)
  case first =>
    by_cases hc : c = 0
    · obtain ⟨a, hr, hd⟩ := HK2.out hc
      subst hc
      go_wp2_with (refine op_met rfl (wpList_load_mid rfl 34 (.tmp 3) rfl g1 0 rfl cs _ hB.all Tryz.underlying34 rfl (by rw [HL.out]; kernel_rfl) ?_))
      refine (DepthR_call a hd cs w2 _ hr).mono ?_
      rintro e w3 ⟨rfl, hb3⟩
      replace hb := hb.trans (hb3.mono hb.size)
      replace HT := Lib.hid (HT.out.below hb3)
      unfold EOk at hd
      generalize E.dep a = q at hd
      have d2 : decide ((24 : Int) < (q : Int)) = false := decide_eq_false (by omega)
      clear hb3 hr
      go_wp2_with fail
      go_meet
      exact ⟨rfl, HT.out, hb⟩
    · have d1 : ((c : Int) == 0) = false := by rw [beq_eq_false_iff_ne]; omega
      go_wp2_with fail
      go_meet
      exact ⟨rfl, HT.out, hb⟩
  case rest =>
    clear hb HT hB HK2
    obtain ⟨rfl, ht, hb⟩ := hcut
    have HT := Lib.hid ht
    clear ht
    go_wp2_with fail
    refine (stm_two s _ HT.out).mono ?_
    rintro e w5 ⟨ds, i', c', h1⟩
    obtain rfl := h1.e
    have HL := Lib.hid h1.len
    have HO := Lib.hid h1.one
    have HK := Lib.hid h1.ok
    have hb5 := h1.bel
    replace HT := Lib.hid (HT.out.below hb5)
    replace hb := hb.trans (hb5.mono hb.size)
    clear h1 hb5
    go_wp2_with (refine store_new rfl 57 (.tmp 6) (.tmp 25) rfl ds rfl rfl 57 (stmZ Stm.zero) (by rw [HL.out]; kernel_rfl) (by rw [HL.out]; rfl) HO.out ?_)
    intro w6 hB hb6 hz6
    replace HT := Lib.hid (HT.out.below hb6)
    have HK2 : Hid (c' = 0 → ∃ a, StmRep w6 (fun _ => True) a ds ∧ StmOk a) := Lib.hid (fun e => let ⟨a, h1, h2⟩ := HK.out e; ⟨a, goodStm.below h1 hb6, h2⟩)
    replace hb := hb.trans (hb6.mono hb.size)
    generalize w5.heap.size = g2 at hB ⊢
    clear HK hb6 hz6
    by_cases hc : c' = 0
    · obtain ⟨a, hr, hd⟩ := HK2.out hc
      subst hc
      go_wp2_with (refine op_met rfl (wpList_load_mid rfl 57 (.tmp 6) rfl g2 0 rfl ds _ hB.all Tryz.underlying57 rfl (by rw [HL.out]; kernel_rfl) ?_))
      refine (DeepT_call a hd ds w6 _ hr).mono ?_
      rintro e w7 ⟨rfl, hb7⟩
      replace HT := Lib.hid (HT.out.below hb7)
      replace hb := hb.trans (hb7.mono hb.size)
      clear hb7 hr hd
      go_wp2_with fail
      refine (awake18_call w7 HT.out).mono ?_
      rintro e w8 ⟨rfl, hb8⟩
      have HB := Lib.hid (hb.trans (hb8.mono hb.size))
      clear hb8 hb
      go_wp2_with fail
      go_ret
      exact ⟨rfl, HB.out⟩
    · have d1 : ((c' : Int) != 0) = true := by rw [bne_iff_ne]; omega
      go_wp2_with fail
      refine (awake18_call w6 HT.out).mono ?_
      rintro e w8 ⟨rfl, hb8⟩
      have HB := Lib.hid (hb.trans (hb8.mono hb.size))
      clear hb8 hb
      go_wp2_with fail
      go_ret
      exact ⟨rfl, HB.out⟩
end Go.Proofs.YtpmncgbpbcgfaaaGreatDoor
