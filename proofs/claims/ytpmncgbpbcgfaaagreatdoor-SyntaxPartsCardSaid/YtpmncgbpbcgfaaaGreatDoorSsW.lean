import Derived.Test.YtpmncgbpbcgfaaaGreatDoorPlA
import Derived.Test.YtpmncgbpbcgfaaaGreatDoorLxTokens
import Derived.Test.YtpmncgbpbcgfaaaGreatDoorSxG
import Derived.Test.YtpmncgbpbcgfaaaGreatDoorSsB
/-
  Lexing with a bound on its steps: what a given text comes to, by reckoning.
-/
namespace Go.Proofs.YtpmncgbpbcgfaaaGreatDoor
open Go.RowKit
set_option linter.unusedVariables false
set_option linter.unusedSimpArgs false

/-- lexing with a bound on its steps -/
def lexF (l : List UInt8) : Nat → Nat → List Tok → Option Res
  | 0, _, _ => none
  | n + 1, a, acc =>
    match l[a]? with
    | none => some (.toks acc)
    | some c => if blankB c.toNat then lexF l n (a + 1) acc else match scanAt l a c with
      | .err k => some (.err a k)
      | .tok t e => lexF l n e (acc ++ [t])
theorem lexF_lexes (l : List UInt8) : ∀ (n a : Nat) (acc : List Tok) (r : Res), lexF l n a acc = some r → Lexes l a acc r
  | 0, a, acc, r, h => by cases h
  | n + 1, a, acc, r, h => by
    unfold lexF at h
    rcases Nat.lt_or_ge a l.length with ha | ha
    · rw [List.getElem?_eq_getElem ha] at h
      simp only at h
      by_cases hb : blankB l[a].toNat = true
      · rw [if_pos hb] at h
        exact .skip ha hb (lexF_lexes l n _ _ _ h)
      · rw [if_neg hb] at h
        have hb' : blankB l[a].toNat = false := by simpa using hb
        rcases hs : scanAt l a l[a] with k | ⟨t, e⟩
        · rw [hs] at h
          simp only [Option.some.injEq] at h
          subst h
          exact .err ha hb' hs
        · rw [hs] at h
          exact .tok ha hb' hs (lexF_lexes l n _ _ _ h)
    · rw [List.getElem?_eq_none ha] at h
      simp only [Option.some.injEq] at h
      subst h
      exact .fin ha
theorem Comes_.det {l : List UInt8} {r r' : Res} (h : Comes_ l r) (h' : Comes_ l r') : r = r' := by
  rcases h with ⟨h1, rfl⟩ | ⟨h1, h2⟩ <;> rcases h' with ⟨h3, rfl⟩ | ⟨h3, h4⟩
  · rfl
  · omega
  · omega
  · exact h2.det h4
end Go.Proofs.YtpmncgbpbcgfaaaGreatDoor

/-
  The examples of the chapter: bitemporallaw18.awake returns true.
-/
namespace Go.Proofs.YtpmncgbpbcgfaaaGreatDoor
open Go.RowKit
set_option linter.unusedVariables false
set_option linter.unusedSimpArgs false

theorem exprOk_at (s : ByteArray) (l : List UInt8) (hs : s.data.toList = l) {T : List Tok} (hr : Comes_ l (.toks T)) {a : E} (hp : pWhole (pExpr (3 * T.length + 3)) (cores T) = .ok a) (w : World) (ht : Tab w) :
    Calls Tryz.prog 9 #[.string s] w fun e w' => ∃ cs, e = .returned (.tuple #[.agg cs.toArray, .int .i64 0, .int .i64 0]) ∧ ERep w' (Fp w.heap.size []) a cs ∧ Below w.heap.size w w' :=
  (expression_call s w ht).mono fun e w' ⟨r, h1, h2, h3⟩ => by
    rw [hs] at h1
    obtain rfl := hr.det h1
    unfold TopOut at h2
    dsimp only at h2
    rw [hp] at h2
    obtain ⟨cs, h4, h5⟩ := h2
    exact ⟨cs, h4, h5, h3⟩
theorem stmOk_at (s : ByteArray) (l : List UInt8) (hs : s.data.toList = l) {T : List Tok} (hr : Comes_ l (.toks T)) {a : Stm} (hp : pWhole (pStatement (3 * T.length + 3)) (cores T) = .ok a) (w : World) (ht : Tab w) :
    Calls Tryz.prog 6 #[.string s] w fun e w' => ∃ cs, e = .returned (.tuple #[.agg cs.toArray, .int .i64 0, .int .i64 0]) ∧ StmRep w' (Fp w.heap.size []) a cs ∧ Below w.heap.size w w' :=
  (statementT_call s w ht).mono fun e w' ⟨r, h1, h2, h3⟩ => by
    rw [hs] at h1
    obtain rfl := hr.det h1
    unfold TopOut at h2
    dsimp only at h2
    rw [hp] at h2
    obtain ⟨cs, h4, h5⟩ := h2
    exact ⟨cs, h4, h5, h3⟩
theorem stmFail_at (s : ByteArray) (l : List UInt8) (hs : s.data.toList = l) {T : List Tok} (hr : Comes_ l (.toks T)) {j c p : Nat} (hp : pWhole (pStatement (3 * T.length + 3)) (cores T) = .fail j c) (hj : posOf T s.size j = p) (w : World) (ht : Tab w) :
    Calls Tryz.prog 6 #[.string s] w fun e w' => e = .returned (.tuple #[.agg (stmZ Stm.zero).toArray, .int .i64 (p : Int), .int .i64 (c : Int)]) ∧ Below w.heap.size w w' :=
  (statementT_call s w ht).mono fun e w' ⟨r, h1, h2, h3⟩ => by
    rw [hs] at h1
    obtain rfl := hr.det h1
    unfold TopOut at h2
    dsimp only at h2
    rw [hp] at h2
    obtain ⟨_, h4⟩ := h2
    rw [hj] at h4
    exact ⟨h4, h3⟩
theorem eCells_one (op int : Nat) (v : V) (name : List UInt8) (A : Option Addr) (m c : Nat) : ∀ u ∈ eCells op int v name (.slice A m c), u.oneCell' = true := by
  intro u hu
  simp [eCells, strV] at hu
  rcases hu with rfl | rfl | rfl | rfl | rfl | rfl | rfl <;> rfl
theorem erep_form {w : World} {F : Nat → Prop} {op int : Nat} {v : V} {name : List UInt8} {l : List E} {cs : List Value} (h : ERep w F (.mk op int v name l) cs) : ∃ A c, cs = eCells op int v name (.slice A l.length c) := by
  obtain ⟨a, rfl, hl⟩ := erep_iff.1 h
  obtain ⟨A, c, rfl⟩ := hl.form
  exact ⟨A, c, rfl⟩
def awakeT0 : List Tok := [⟨1, [97], 0, 0⟩, ⟨2, [65, 78, 68], 0, 2⟩, ⟨1, [98], 0, 6⟩, ⟨2, [65, 78, 68], 0, 8⟩, ⟨1, [99], 0, 12⟩]
theorem awakeC0 : Comes_ [97, 32, 65, 78, 68, 32, 98, 32, 65, 78, 68, 32, 99] (.toks awakeT0) := .inr ⟨by decide, lexF_lexes _ 70 _ _ _ (by kernel_rfl)⟩
theorem awakeP0 : pWhole (pExpr (3 * awakeT0.length + 3)) (cores awakeT0) = .ok (E.node 5 [E.name [97], E.name [98], E.name [99]]) := by kernel_rfl
def awakeT1 : List Tok := [⟨5, [40], 0, 0⟩, ⟨1, [97], 0, 1⟩, ⟨2, [65, 78, 68], 0, 3⟩, ⟨1, [98], 0, 7⟩, ⟨5, [41], 0, 8⟩, ⟨2, [65, 78, 68], 0, 10⟩, ⟨1, [99], 0, 14⟩]
theorem awakeC1 : Comes_ [40, 97, 32, 65, 78, 68, 32, 98, 41, 32, 65, 78, 68, 32, 99] (.toks awakeT1) := .inr ⟨by decide, lexF_lexes _ 70 _ _ _ (by kernel_rfl)⟩
theorem awakeP1 : pWhole (pExpr (3 * awakeT1.length + 3)) (cores awakeT1) = .ok (E.node 5 [E.node 5 [E.name [97], E.name [98]], E.name [99]]) := by kernel_rfl
def awakeT2 : List Tok := [⟨5, [45], 0, 0⟩, ⟨3, [], 5, 1⟩]
theorem awakeC2 : Comes_ [45, 53] (.toks awakeT2) := .inr ⟨by decide, lexF_lexes _ 70 _ _ _ (by kernel_rfl)⟩
theorem awakeP2 : pWhole (pExpr (3 * awakeT2.length + 3)) (cores awakeT2) = .ok (E.const (V.ofInt (-5))) := by kernel_rfl
def awakeT3 : List Tok := [⟨5, [45], 0, 0⟩, ⟨5, [40], 0, 1⟩, ⟨3, [], 5, 2⟩, ⟨5, [41], 0, 3⟩]
theorem awakeC3 : Comes_ [45, 40, 53, 41] (.toks awakeT3) := .inr ⟨by decide, lexF_lexes _ 70 _ _ _ (by kernel_rfl)⟩
theorem awakeP3 : pWhole (pExpr (3 * awakeT3.length + 3)) (cores awakeT3) = .ok (E.node 18 [E.const (V.ofInt 5)]) := by kernel_rfl
def awakeT4 : List Tok := [⟨2, [83, 69, 76, 69, 67, 84], 0, 0⟩, ⟨5, [42], 0, 7⟩, ⟨2, [70, 82, 79, 77], 0, 9⟩, ⟨1, [116], 0, 14⟩, ⟨2, [85, 78, 73, 79, 78], 0, 16⟩, ⟨2, [83, 69, 76, 69, 67, 84], 0, 22⟩, ⟨1, [97], 0, 29⟩, ⟨2, [70, 82, 79, 77], 0, 31⟩, ⟨1, [117], 0, 36⟩, ⟨2, [69, 88, 67, 69, 80, 84], 0, 38⟩, ⟨2, [83, 69, 76, 69, 67, 84], 0, 45⟩, ⟨1, [98], 0, 52⟩, ⟨2, [70, 82, 79, 77], 0, 54⟩, ⟨1, [118], 0, 59⟩]
theorem awakeC4 : Comes_ [83, 69, 76, 69, 67, 84, 32, 42, 32, 70, 82, 79, 77, 32, 116, 32, 85, 78, 73, 79, 78, 32, 83, 69, 76, 69, 67, 84, 32, 97, 32, 70, 82, 79, 77, 32, 117, 32, 69, 88, 67, 69, 80, 84, 32, 83, 69, 76, 69, 67, 84, 32, 98, 32, 70, 82, 79, 77, 32, 118] (.toks awakeT4) := .inr ⟨by decide, lexF_lexes _ 70 _ _ _ (by kernel_rfl)⟩
theorem awakeP4 : pWhole (pStatement (3 * awakeT4.length + 3)) (cores awakeT4) = .ok ({ Stm.zero with kind := 1, query := (.mk 2 false Sel.zero [.mk 1 false Sel.zero [(.mk 0 false ⟨false, [⟨E.zero, 0, true, []⟩], ⟨[116], [], Clau.zero, -1⟩, [], false, E.zero, []⟩ [] [] (-1)), (.mk 0 false ⟨false, [⟨E.name [97], 0, false, []⟩], ⟨[117], [], Clau.zero, -1⟩, [], false, E.zero, []⟩ [] [] (-1))] [] (-1), (.mk 0 false ⟨false, [⟨E.name [98], 0, false, []⟩], ⟨[118], [], Clau.zero, -1⟩, [], false, E.zero, []⟩ [] [] (-1))] [] (-1)) }) := by kernel_rfl
def awakeT5 : List Tok := [⟨2, [83, 69, 76, 69, 67, 84], 0, 0⟩, ⟨1, [97], 0, 7⟩, ⟨2, [70, 82, 79, 77], 0, 9⟩]
theorem awakeC5 : Comes_ [83, 69, 76, 69, 67, 84, 32, 97, 32, 70, 82, 79, 77] (.toks awakeT5) := .inr ⟨by decide, lexF_lexes _ 70 _ _ _ (by kernel_rfl)⟩
theorem awakeP5 : pWhole (pStatement (3 * awakeT5.length + 3)) (cores awakeT5) = .fail 3 2 := by kernel_rfl
def awakeT6 : List Tok := [⟨2, [83, 69, 76, 69, 67, 84], 0, 0⟩, ⟨2, [70, 82, 79, 77], 0, 7⟩, ⟨1, [116], 0, 12⟩]
theorem awakeC6 : Comes_ [83, 69, 76, 69, 67, 84, 32, 70, 82, 79, 77, 32, 116] (.toks awakeT6) := .inr ⟨by decide, lexF_lexes _ 70 _ _ _ (by kernel_rfl)⟩
theorem awakeP6 : pWhole (pStatement (3 * awakeT6.length + 3)) (cores awakeT6) = .fail 1 1 := by kernel_rfl
structure CellAt (w : World) (g : Nat) (n : Int) : Prop where
  lt : g < w.heap.size
  cell : w.cell? ⟨g, 0, none⟩ = some (.int .i64 n)
theorem CellAt.trans' {w w' : World} {g : Nat} {n : Int} (h : CellAt w g n) (hb : Below w.heap.size w w') : CellAt w' g n := ⟨Nat.lt_of_lt_of_le h.lt hb.size, (hb.cell (p := ⟨g, 0, none⟩) h.lt).trans h.cell⟩
theorem awakeQ {w : World} {F : Nat → Prop} {cs : List Value} (h : StmRep w F ({ Stm.zero with kind := 1, query := (.mk 2 false Sel.zero [.mk 1 false Sel.zero [(.mk 0 false ⟨false, [⟨E.zero, 0, true, []⟩], ⟨[116], [], Clau.zero, -1⟩, [], false, E.zero, []⟩ [] [] (-1)), (.mk 0 false ⟨false, [⟨E.name [97], 0, false, []⟩], ⟨[117], [], Clau.zero, -1⟩, [], false, E.zero, []⟩ [] [] (-1))] [] (-1), (.mk 0 false ⟨false, [⟨E.name [98], 0, false, []⟩], ⟨[118], [], Clau.zero, -1⟩, [], false, E.zero, []⟩ [] [] (-1))] [] (-1)) }) cs) : ∃ qs vr vs es vc vk vf vh ss A c vo g, cs = stmCells ({ Stm.zero with kind := 1, query := (.mk 2 false Sel.zero [.mk 1 false Sel.zero [(.mk 0 false ⟨false, [⟨E.zero, 0, true, []⟩], ⟨[116], [], Clau.zero, -1⟩, [], false, E.zero, []⟩ [] [] (-1)), (.mk 0 false ⟨false, [⟨E.name [97], 0, false, []⟩], ⟨[117], [], Clau.zero, -1⟩, [], false, E.zero, []⟩ [] [] (-1))] [] (-1), (.mk 0 false ⟨false, [⟨E.name [98], 0, false, []⟩], ⟨[118], [], Clau.zero, -1⟩, [], false, E.zero, []⟩ [] [] (-1))] [] (-1)) }) qs vr vs es vc vk vf vh ∧ qs = qCells 2 false ss (.slice (some ⟨g, 0, none⟩) 2 c) vo (-1) ∧ qs.length = 23 ∧ es.length = 7 ∧ ss.length = 18 ∧ g < w.heap.size ∧ w.cell? ⟨g, 0, none⟩ = some (.int .i64 1) ∧ A = c := by
  obtain ⟨qs, vr, vs, es, vc, vk, vf, vh, hi, rfl⟩ := h
  obtain ⟨ss, va, vo, rfl, hs, hl, ho⟩ := qrep_iff.1 hi.query
  obtain ⟨A, c, rfl⟩ := hl.form
  obtain ⟨g, us, he⟩ := hl.at_ (k := 0) (by simp)
  obtain rfl := he.addr
  obtain ⟨ss', va', vo', rfl, _⟩ := qrep_iff.1 he.rep
  exact ⟨_, _, _, _, _, _, _, _, ss, c, c, vo, g, rfl, rfl, goodQ.len hi.query, hi.cond.len, goodSel.len hs, he.lt, he.cell 0 (by omega), rfl⟩
set_option maxHeartbeats 8000000 in
set_option maxRecDepth 100000 in
theorem awake18_call (w : World) (ht : Tab w) : Calls Tryz.prog 7 #[] w fun e w' => e = .returned (.bool true) ∧ Below w.heap.size w w' := by
  have HT := Lib.hid ht
  clear ht
  go_enter Tryz.func7, Tryz.ntmps7
  go_wp2_with fail
  refine (exprOk_at _ [97, 32, 65, 78, 68, 32, 98, 32, 65, 78, 68, 32, 99] rfl awakeC0 awakeP0 w HT.out).mono ?_
  rintro e w0a ⟨cs, rfl, hr, hb⟩
  obtain ⟨A0, k0, rfl⟩ : ∃ A k, cs = eCells 5 0 V.null [] (.slice A 3 k) := erep_form hr
  have hbl := hb
  replace HT := Lib.hid (HT.out.below hb)
  have hz0 : w.heap.size ≤ w0a.heap.size := hb.size
  clear hb hr
  go_wp2_with (refine store_new rfl 34 (.tmp 1) (.tmp 25) rfl (eCells 5 0 V.null [] (.slice A0 3 k0)) rfl rfl 34 zeroE7 (by kernel_rfl) rfl (eCells_one _ _ _ _ _ _ _) ?_)
  intro w0b hB0 hb hzz
  replace hbl := hbl.trans (hb.mono hbl.size)
  replace HT := Lib.hid (HT.out.below hb)
  clear hb hzz hz0
  generalize w0a.heap.size = g0 at hB0 ⊢
  go_wp2_with fail
  refine (exprOk_at _ [40, 97, 32, 65, 78, 68, 32, 98, 41, 32, 65, 78, 68, 32, 99] rfl awakeC1 awakeP1 w0b HT.out).mono ?_
  rintro e w1a ⟨cs, rfl, hr, hb⟩
  obtain ⟨A1, k1, rfl⟩ : ∃ A k, cs = eCells 5 0 V.null [] (.slice A 2 k) := erep_form hr
  have hbl := hbl.trans (hb.mono hbl.size)
  replace hB0 := hB0.below hb
  replace HT := Lib.hid (HT.out.below hb)
  have hz1 : w0b.heap.size ≤ w1a.heap.size := hb.size
  clear hb hr
  go_wp2_with (refine store_new rfl 34 (.tmp 4) (.tmp 30) rfl (eCells 5 0 V.null [] (.slice A1 2 k1)) rfl rfl 34 zeroE7 (by kernel_rfl) rfl (eCells_one _ _ _ _ _ _ _) ?_)
  intro w1b hB1 hb hzz
  replace hbl := hbl.trans (hb.mono hbl.size)
  replace hB0 := hB0.below hb
  replace HT := Lib.hid (HT.out.below hb)
  clear hb hzz hz1
  generalize w1a.heap.size = g1 at hB1 ⊢
  go_wp2_with fail
  refine (exprOk_at _ [45, 53] rfl awakeC2 awakeP2 w1b HT.out).mono ?_
  rintro e w2a ⟨cs, rfl, hr, hb⟩
  obtain ⟨A2, k2, rfl⟩ : ∃ A k, cs = eCells 1 0 (V.ofInt (-5)) [] (.slice A 0 k) := erep_form hr
  have hbl := hbl.trans (hb.mono hbl.size)
  replace hB0 := hB0.below hb
  replace hB1 := hB1.below hb
  replace HT := Lib.hid (HT.out.below hb)
  have hz2 : w1b.heap.size ≤ w2a.heap.size := hb.size
  clear hb hr
  go_wp2_with (refine store_new rfl 34 (.tmp 7) (.tmp 35) rfl (eCells 1 0 (V.ofInt (-5)) [] (.slice A2 0 k2)) rfl rfl 34 zeroE7 (by kernel_rfl) rfl (eCells_one _ _ _ _ _ _ _) ?_)
  intro w2b hB2 hb hzz
  replace hbl := hbl.trans (hb.mono hbl.size)
  replace hB0 := hB0.below hb
  replace hB1 := hB1.below hb
  replace HT := Lib.hid (HT.out.below hb)
  clear hb hzz hz2
  generalize w2a.heap.size = g2 at hB2 ⊢
  go_wp2_with fail
  refine (exprOk_at _ [45, 40, 53, 41] rfl awakeC3 awakeP3 w2b HT.out).mono ?_
  rintro e w3a ⟨cs, rfl, hr, hb⟩
  obtain ⟨A3, k3, rfl⟩ : ∃ A k, cs = eCells 18 0 V.null [] (.slice A 1 k) := erep_form hr
  have hbl := hbl.trans (hb.mono hbl.size)
  replace hB0 := hB0.below hb
  replace hB1 := hB1.below hb
  replace hB2 := hB2.below hb
  replace HT := Lib.hid (HT.out.below hb)
  have hz3 : w2b.heap.size ≤ w3a.heap.size := hb.size
  clear hb hr
  go_wp2_with (refine store_new rfl 34 (.tmp 10) (.tmp 40) rfl (eCells 18 0 V.null [] (.slice A3 1 k3)) rfl rfl 34 zeroE7 (by kernel_rfl) rfl (eCells_one _ _ _ _ _ _ _) ?_)
  intro w3b hB3 hb hzz
  replace hbl := hbl.trans (hb.mono hbl.size)
  replace hB0 := hB0.below hb
  replace hB1 := hB1.below hb
  replace hB2 := hB2.below hb
  replace HT := Lib.hid (HT.out.below hb)
  clear hb hzz hz3
  generalize w3a.heap.size = g3 at hB3 ⊢
  go_wp2_with fail
  refine (stmOk_at _ [83, 69, 76, 69, 67, 84, 32, 42, 32, 70, 82, 79, 77, 32, 116, 32, 85, 78, 73, 79, 78, 32, 83, 69, 76, 69, 67, 84, 32, 97, 32, 70, 82, 79, 77, 32, 117, 32, 69, 88, 67, 69, 80, 84, 32, 83, 69, 76, 69, 67, 84, 32, 98, 32, 70, 82, 79, 77, 32, 118] rfl awakeC4 awakeP4 w3b HT.out).mono ?_
  rintro e w4a ⟨cs, rfl, hr, hb⟩
  have HL4 := Lib.hid (goodStm.len hr)
  have HO4 := Lib.hid (goodStm.one hr)
  have HQ4 := Lib.hid (awakeQ hr)
  clear hr
  have hbl := hbl.trans (hb.mono hbl.size)
  replace hB0 := hB0.below hb
  replace hB1 := hB1.below hb
  replace hB2 := hB2.below hb
  replace hB3 := hB3.below hb
  replace HT := Lib.hid (HT.out.below hb)
  have hz4 : w3b.heap.size ≤ w4a.heap.size := hb.size
  clear hb
  go_wp2_with (refine store_new rfl 57 (.tmp 13) (.tmp 45) rfl cs rfl rfl 57 (stmZ Stm.zero) (by rw [HL4.out]; kernel_rfl) (by rw [HL4.out]; rfl) HO4.out ?_)
  intro w4b hB4 hb hzz
  replace hbl := hbl.trans (hb.mono hbl.size)
  replace hB0 := hB0.below hb
  replace hB1 := hB1.below hb
  replace hB2 := hB2.below hb
  replace hB3 := hB3.below hb
  replace HT := Lib.hid (HT.out.below hb)
  have HG4 : Hid (∃ qs vr vs es vc vk vf vh ss c vo g, cs = stmCells ({ Stm.zero with kind := 1, query := (.mk 2 false Sel.zero [.mk 1 false Sel.zero [(.mk 0 false ⟨false, [⟨E.zero, 0, true, []⟩], ⟨[116], [], Clau.zero, -1⟩, [], false, E.zero, []⟩ [] [] (-1)), (.mk 0 false ⟨false, [⟨E.name [97], 0, false, []⟩], ⟨[117], [], Clau.zero, -1⟩, [], false, E.zero, []⟩ [] [] (-1))] [] (-1), (.mk 0 false ⟨false, [⟨E.name [98], 0, false, []⟩], ⟨[118], [], Clau.zero, -1⟩, [], false, E.zero, []⟩ [] [] (-1))] [] (-1)) }) qs vr vs es vc vk vf vh ∧ qs = qCells 2 false ss (.slice (some ⟨g, 0, none⟩) 2 c) vo (-1) ∧ qs.length = 23 ∧ es.length = 7 ∧ ss.length = 18 ∧ CellAt w4b g 1) := Lib.hid (by
    obtain ⟨qs, vr, vs, es, vc, vk, vf, vh, ss, _, c, vo, g, h1, h2, h3, h4, h5, h6, h7, _⟩ := HQ4.out
    exact ⟨qs, vr, vs, es, vc, vk, vf, vh, ss, c, vo, g, h1, h2, h3, h4, h5, Nat.lt_of_lt_of_le h6 hb.size, (hb.cell (p := ⟨g, 0, none⟩) h6).trans h7⟩)
  obtain ⟨qs, vr, vs, es, vc, vk, vf, vh, ss, c, vo, g, rfl, rfl, h3, h4, h5, hg⟩ := HG4.out
  have HG4 := Lib.hid hg
  have HK4 := Lib.hid (And.intro h3 (And.intro h4 h5))
  clear h3 h4 h5 hg HQ4
  clear hb hzz hz4
  generalize w4a.heap.size = g4 at hB4 ⊢
  go_wp2_with fail
  refine (stmFail_at _ [83, 69, 76, 69, 67, 84, 32, 97, 32, 70, 82, 79, 77] rfl awakeC5 awakeP5 (p := 13) rfl w4b HT.out).mono ?_
  rintro e w5a ⟨rfl, hb⟩
  have hbl := hbl.trans (hb.mono hbl.size)
  replace hB0 := hB0.below hb
  replace hB1 := hB1.below hb
  replace hB2 := hB2.below hb
  replace hB3 := hB3.below hb
  replace hB4 := hB4.below hb
  replace HG4 := Lib.hid (HG4.out.trans' hb)
  replace HT := Lib.hid (HT.out.below hb)
  have hz5 : w4b.heap.size ≤ w5a.heap.size := hb.size
  clear hb
  go_wp2_with (refine store_new rfl 57 (.tmp 16) (.tmp 50) rfl (stmZ Stm.zero) rfl rfl 57 (stmZ Stm.zero) (by kernel_rfl) rfl (goodStm.one (stmZero_rep w (fun _ => True))) ?_)
  intro w5b hB5 hb hzz
  replace hbl := hbl.trans (hb.mono hbl.size)
  replace hB0 := hB0.below hb
  replace hB1 := hB1.below hb
  replace hB2 := hB2.below hb
  replace hB3 := hB3.below hb
  replace hB4 := hB4.below hb
  replace HT := Lib.hid (HT.out.below hb)
  replace HG4 := Lib.hid (HG4.out.trans' hb)
  clear hb hzz hB5 hz5
  generalize w5a.heap.size = g5
  go_wp2_with fail
  refine (stmFail_at _ [83, 69, 76, 69, 67, 84, 32, 70, 82, 79, 77, 32, 116] rfl awakeC6 awakeP6 (p := 7) rfl w5b HT.out).mono ?_
  rintro e w6a ⟨rfl, hb⟩
  have hbl := hbl.trans (hb.mono hbl.size)
  replace hB0 := hB0.below hb
  replace hB1 := hB1.below hb
  replace hB2 := hB2.below hb
  replace hB3 := hB3.below hb
  replace hB4 := hB4.below hb
  replace HG4 := Lib.hid (HG4.out.trans' hb)
  replace HT := Lib.hid (HT.out.below hb)
  have hz6 : w5b.heap.size ≤ w6a.heap.size := hb.size
  clear hb
  go_wp2_with (refine store_new rfl 57 (.tmp 19) (.tmp 55) rfl (stmZ Stm.zero) rfl rfl 57 (stmZ Stm.zero) (by kernel_rfl) rfl (goodStm.one (stmZero_rep w (fun _ => True))) ?_)
  intro w6b hB6 hb hzz
  replace hbl := hbl.trans (hb.mono hbl.size)
  replace hB0 := hB0.below hb
  replace hB1 := hB1.below hb
  replace hB2 := hB2.below hb
  replace hB3 := hB3.below hb
  replace hB4 := hB4.below hb
  replace HT := Lib.hid (HT.out.below hb)
  replace HG4 := Lib.hid (HG4.out.trans' hb)
  clear hb hzz hB6 hz6
  generalize w6a.heap.size = g6
  have b0 := hB0.cell 6 rfl
  have b1 := hB1.cell 6 rfl
  have b2 := hB2.cell 3 rfl
  have b3 := hB3.cell 0 rfl
  have HC := TCells.mk' hB4 HK4.out.1 HK4.out.2.1
  have b4 : w6b.cell? ⟨g4, 4, none⟩ = some (.int .i64 2) := HC.query 0 _ rfl
  have b5 : w6b.cell? ⟨g4, 24, none⟩ = some (.slice (some ⟨g, 0, none⟩) 2 c) := HC.query 20 _ (by
    unfold qCells
    rw [List.getElem?_append_right (by simp), List.getElem?_append_right (by simp [HK4.out.2.2])]
    simp [HK4.out.2.2])
  have b6 := HG4.out.cell
  have HB := Lib.hid hbl
  clear HC hB0 hB1 hB2 hB3 hB4 HT HG4 HK4 hbl HL4 HO4
  go_wp2_with fail
  go_ret
  exact ⟨rfl, HB.out⟩
end Go.Proofs.YtpmncgbpbcgfaaaGreatDoor
