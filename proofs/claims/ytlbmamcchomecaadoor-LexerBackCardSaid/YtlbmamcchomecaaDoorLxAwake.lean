/-
  The examples of the chapter: bitemporallaw17.awake returns true.
-/
import Derived.Test.YtlbmamcchomecaaDoorLxTokens
import Derived.Deep.AppendLies
namespace Go.Proofs.YtlbmamcchomecaaDoor
open Go.RowKit
set_option linter.unusedVariables false
set_option linter.unusedSimpArgs false

/-- lexing with a bound on its steps -/
def lexF (l : List UInt8) : Nat → Nat → List Tok → Option Res
  | 0, _, _ => none
  | n + 1, a, acc =>
    match l[a]? with
    | none => some (.toks acc)
    | some c => if blankB c.toNat then lexF l n (a + 1) acc else match scanAt l a c with
      | .err k => some (.err a k)
      | .tok t e => lexF l n e (acc ++ [t])
theorem lexF_lexes (l : List UInt8) : ∀ (n a : Nat) (acc : List Tok) (r : Res), lexF l n a acc = some r → Lexes l a acc r
  | 0, a, acc, r, h => by cases h
  | n + 1, a, acc, r, h => by
    unfold lexF at h
    rcases Nat.lt_or_ge a l.length with ha | ha
    · rw [List.getElem?_eq_getElem ha] at h
      simp only at h
      by_cases hb : blankB l[a].toNat = true
      · rw [if_pos hb] at h
        exact .skip ha hb (lexF_lexes l n _ _ _ h)
      · rw [if_neg hb] at h
        have hb' : blankB l[a].toNat = false := by simpa using hb
        rcases hs : scanAt l a l[a] with k | ⟨t, e⟩
        · rw [hs] at h
          simp only [Option.some.injEq] at h
          subst h
          exact .err ha hb' hs
        · rw [hs] at h
          exact .tok ha hb' hs (lexF_lexes l n _ _ _ h)
    · rw [List.getElem?_eq_none ha] at h
      simp only [Option.some.injEq] at h
      subst h
      exact .fin ha
theorem Comes_.det {l : List UInt8} {r r' : Res} (h : Comes_ l r) (h' : Comes_ l r') : r = r' := by
  rcases h with ⟨h1, rfl⟩ | ⟨h1, h2⟩ <;> rcases h' with ⟨h3, rfl⟩ | ⟨h3, h4⟩
  · rfl
  · omega
  · omega
  · exact h2.det h4
theorem tokens_at (s : ByteArray) (l : List UInt8) (hs : s.data.toList = l) {r : Res} (hr : Comes_ l r) (w : World) (ht : Tab w) :
    Calls Tryd.prog 7 #[.string s] w fun e w' => TokOut w e w' r :=
  (tokens_call s w ht).mono fun e w' ⟨r', h1, h2⟩ => by
    rw [hs] at h1
    rw [hr.det h1]
    exact h2
def text1 : List UInt8 := [115, 101, 108, 101, 99, 116, 32, 97, 60, 62, 39, 105, 116, 39, 39, 115, 39]
def toks1 : List Tok := [⟨2, [83, 69, 76, 69, 67, 84], 0, 0⟩, ⟨1, [97], 0, 7⟩, ⟨5, [60, 62], 0, 8⟩, ⟨4, [105, 116, 39, 115], 0, 10⟩]
theorem comes1 : Comes_ text1 (.toks toks1) := .inr ⟨by decide, lexF_lexes _ 40 _ _ _ (by kernel_rfl)⟩
theorem comes2 : Comes_ [97, 32, 66, 99] (.err 2 1) := .inr ⟨by decide, lexF_lexes _ 40 _ _ _ (by kernel_rfl)⟩
theorem comes3 : Comes_ [39, 97] (.err 0 2) := .inr ⟨by decide, lexF_lexes _ 40 _ _ _ (by kernel_rfl)⟩
set_option maxHeartbeats 4000000 in
set_option maxRecDepth 100000 in
theorem awake_call (w : World) (ht : Tab w) : Calls Tryd.prog 10 #[] w fun e w' => e = .returned (.bool true) ∧ Below w.heap.size w w' := by
  have HT := Lib.hid ht
  clear ht
  go_enter Tryd.func10, Tryd.ntmps10
  go_wp2_with fail
  refine (tokens_at _ text1 rfl comes1 w HT.out).mono ?_
  rintro e w1 ⟨v, rfl, ho, hb1⟩
  have ho : w1.ownsRow w.heap.size 30 4 v toks1.length (toks1.flatMap tokL) := ho
  obtain ⟨g, cap, rfl, _, hgl⟩ := ho.form (by decide)
  have HCE := Lib.hid (ho.cells (g := g) rfl)
  have HT1 := Lib.hid (HT.out.below hb1)
  clear HT ho
  go_wp2_with fail
  refine (tokens_at _ [97, 32, 66, 99] rfl comes2 w1 HT1.out).mono ?_
  rintro e w2 ⟨rfl, hb2⟩
  have HT2 := Lib.hid (HT1.out.below hb2)
  go_wp2_with fail
  refine (tokens_at _ [39, 97] rfl comes3 w2 HT2.out).mono ?_
  rintro e w3 ⟨rfl, hb3⟩
  have HB := Lib.hid ((hb1.trans (hb2.mono hb1.size)).trans (hb3.mono (Nat.le_trans hb1.size hb2.size)))
  have hcell : ∀ j u, (toks1.flatMap tokL)[j]? = some u → w3.cell? ⟨g, j, none⟩ = some u := by
    intro j u hu
    have h1 := HCE.out j u hu
    have e1 : (⟨g, 0, none⟩ : Addr).add j = ⟨g, j, none⟩ := by unfold Addr.add; split <;> simp_all
    rw [e1] at h1
    rw [hb3.cell (p := ⟨g, j, none⟩) (by show g < _; have := hb2.size; omega), hb2.cell (p := ⟨g, j, none⟩) (by show g < _; omega)]
    exact h1
  have k0 := hcell 0 _ rfl
  have k1 := hcell 1 _ rfl
  have k2 := hcell 2 _ rfl
  have k3 := hcell 3 _ rfl
  have k4 := hcell 4 _ rfl
  have k5 := hcell 5 _ rfl
  have k6 := hcell 6 _ rfl
  have k7 := hcell 7 _ rfl
  have k9 := hcell 9 _ rfl
  have k11 := hcell 11 _ rfl
  have k12 := hcell 12 _ rfl
  have k13 := hcell 13 _ rfl
  have k14 := hcell 14 _ rfl
  have k15 := hcell 15 _ rfl
  clear hcell HCE HT1 HT2 hb1 hb2 hb3
  go_wp2_with fail
  go_ret
  exact ⟨rfl, HB.out⟩
end Go.Proofs.YtlbmamcchomecaaDoor
