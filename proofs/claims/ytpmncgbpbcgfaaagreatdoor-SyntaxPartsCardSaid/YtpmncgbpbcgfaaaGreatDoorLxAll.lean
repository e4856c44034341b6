/-
  The scanner's all: every token, or a panic at the first error.
-/
import Derived.Test.YtpmncgbpbcgfaaaGreatDoorLxW
import Derived.Test.YtpmncgbpbcgfaaaGreatDoorLxS
import Derived.Maps.AppendAt
import Derived.Laws.OwnMore
namespace Go.Proofs.YtpmncgbpbcgfaaaGreatDoor
open Go.RowKit
set_option linter.unusedVariables false
set_option linter.unusedSimpArgs false

theorem info_tok : (Tryz.prog.info? 95).map (fun i => (i.zero, i.size, i.bytes)) = some (some (.agg #[.int .i64 0, .string ⟨#[]⟩, .int .i64 0, .int .i64 0]), 4, 40) := by kernel_rfl
def tokL (t : Tok) : List Value := [.int .i64 (t.kind : Int), .string ⟨t.text.toArray⟩, .int .i64 (t.int : Int), .int .i64 (t.at_ : Int)]
theorem tok_one (t : Tok) : ∀ u ∈ tokL t, u.oneCell' = true := by
  intro u hu
  simp only [tokL, List.mem_cons, List.not_mem_nil, or_false] at hu
  rcases hu with rfl | rfl | rfl | rfl <;> rfl
theorem cell_lit4 (w : World) (u0 u1 u2 u3 : Value) (e : TypeId) : ∀ j x, [u0, u1, u2, u3][j]? = some x → (w.alloc (.cells #[u0, u1, u2, u3] e)).cell? ((⟨w.heap.size, 0, none⟩ : Addr).add j) = some x := by
  intro j x hx
  have e1 : (⟨w.heap.size, 0, none⟩ : Addr).add j = ⟨w.heap.size, j, none⟩ := by unfold Addr.add; split <;> simp_all
  rw [e1, cell_of_row _ w.heap.size j _ e (0, 0) (heap_alloc_new w _)]
  simpa using hx
theorem grown_own {a w w' : World} {b : Nat} {row : Option Nat} (h : a.grownBy w (some b)) (hg : w.grownBy w' row) (hr : ∀ g, row = some g → a.heap.size ≤ g) : a.grownBy w' (some b) :=
  ⟨hg.os.trans h.os, hg.tape.trans h.tape, hg.output.trans h.output, Nat.le_trans h.size hg.size, fun i hi hne => (hg.block i (Nat.lt_of_lt_of_le hi h.size) (fun e => by have := hr i e.symm; omega)).trans (h.block i hi hne)⟩
def AllRel (w : World) (b : Nat) (s : ByteArray) (a : Nat) (gk : Nat) (v : Value) (wr : World) : Prop :=
  ∃ (k : Nat) (T : List Tok), k + gk = s.size ∧ T.length ≤ k ∧ Sc wr b s k ∧ wr.ownsRow w.heap.size 95 4 v T.length (T.flatMap tokL) ∧ w.grownBy wr (some b) ∧
    (∀ r, Lexes s.data.toList k T r → Lexes s.data.toList a [] r) ∧ ∀ hh : k < s.size, blankB s[k].toNat = false
def AllOut (w : World) (b : Nat) (s : ByteArray) (e : Ending) (w' : World) : Res → Prop
  | .err i c => e = .panicked [{ v := failV i c, recovered := false }] ∧ w.grownBy w' (some b)
  | .toks T => ∃ v, e = .returned v ∧ w'.ownsRow w.heap.size 95 4 v T.length (T.flatMap tokL) ∧ w.grownBy w' (some b)
def AllPost (w : World) (b : Nat) (s : ByteArray) (a : Nat) (e : Ending) (w' : World) : Prop := ∃ r, Lexes s.data.toList a [] r ∧ AllOut w b s e w' r
set_option maxHeartbeats 4000000 in
set_option maxRecDepth 100000 in
theorem scan_all (b : Nat) (s : ByteArray) (a : Nat) (w : World) (h : Sc w b s a) (ht : Tab w) (ha : a ≤ s.size) (hs : s.size ≤ 65536) :
    Calls Tryz.prog 45 #[.pointer (some ⟨b, 0, none⟩)] w (AllPost w b s a) := by
  obtain ⟨i0, hi0, hz0, hz1, hz2⟩ := info_parts info_tok
  have hbl := h.lt
  go_enter Tryz.func45, Tryz.ntmps45
  go_wp2_with fail
  refine (run_blank b s a w h ha hs).mono ?_
  rintro e w1 ⟨rfl, hsc1, hg1⟩
  have HN : Hid (∀ hh : runEnd blankB s.data.toList a < s.size, blankB s[runEnd blankB s.data.toList a].toNat = false) := Lib.hid (fun hh => run_not (cls := blankB) (l := s.data.toList) (a := a) (by simpa using hh))
  have HK := Lib.hid (fun r (hr : Lexes s.data.toList (runEnd blankB s.data.toList a) [] r) => Lexes.run hr)
  have hr2 : runEnd blankB s.data.toList a ≤ s.size := by simpa using runEnd_le blankB s.data.toList a (by simpa using ha)
  generalize runEnd blankB s.data.toList a = k0 at hsc1 HN HK hr2 ⊢
  go_wp2_with fail
  go_loopg [3] (s.size - k0) (fun gk v wr => AllRel w b s a gk v wr)
  case atStart => exact ⟨k0, [], by omega, by simp, hsc1, World.ownsRow_nil _ _ _ _, hg1, HK.out, HN.out⟩
  case round =>
    obtain ⟨k, T, hkg, hTl, hsc, ho, hg, hl, hnb⟩ := hrel
    have HO := Lib.hid ho
    have HL := Lib.hid hl
    clear ho hl HN HK hsc1 hg1
    have t0 := hsc.text
    have t1 := hsc.at_
    by_cases hlt : k < s.size
    · have HNB := Lib.hid (hnb hlt)
      have d1 : decide ((k : Int) < (s.size : Int)) = true := decide_eq_true (by omega)
      have i0' : (0 : Int) ≤ (k : Int) := by omega
      have i1' : (k : Int) < (s.size : Int) := by omega
      have hb8 : s[k].toNat < 256 := s[k].toNat_lt
      clear hnb
      go_wp2_with fail
      go_quiet (fail)
      replace hsc := hsc.drewN nq
      replace hg := only_drewN hg nq
      replace HO : Hid ((wr.drewN nq).ownsRow w.heap.size 95 4 u3 T.length (T.flatMap tokL)) := Lib.hid HO.out
      replace t0 := hsc.text
      replace t1 := hsc.at_
      generalize wr.drewN nq = w1 at hsc hg HO t0 t1 ⊢
      go_wp2_with fail
      go_quiet (fail)
      replace hsc := hsc.drewN nq
      replace hg := only_drewN hg nq
      replace HO : Hid ((w1.drewN nq).ownsRow w.heap.size 95 4 u3 T.length (T.flatMap tokL)) := Lib.hid HO.out
      clear t0 t1
      generalize w1.drewN nq = wr at hsc hg HO ⊢
      have cl := letter_any s[k].toNat wr hb8
      rcases hcl : letterB s[k].toNat with _ | _
      · rw [hcl] at cl
        have CL := Lib.hid cl
        clear cl
        go_wp2_with fail
        refine CL.out.mono ?_
        rintro e w' ⟨rfl, rfl⟩
        have cd := digit_any s[k].toNat wr hb8
        rcases hcd : digitB s[k].toNat with _ | _
        · rw [hcd] at cd
          have CD := Lib.hid cd
          clear cd
          by_cases hq : s[k].toNat = 39
          · have HSC : Hid (scanAt s.data.toList k s[k] = textScan s.data.toList k) := Lib.hid (by unfold scanAt; rw [hcl, hcd, if_neg (by decide), if_neg (by decide), if_pos (eq39 hq)])
            have q1 : ((s[k].toNat : Int) == 39) = true := beq_iff_eq.2 (by omega)
            clear hcl hcd hq
            go_wp2_with fail
            refine CD.out.mono ?_
            rintro e w' ⟨rfl, rfl⟩
            go_wp2_with fail
            have hcon := scan_text b s k wr hsc hlt hs
            rcases hS : textScan s.data.toList k with c | ⟨t, f⟩
            · rw [hS] at hcon
              have HC := Lib.hid hcon
              have HE := Lib.hid (HL.out _ (Lexes.err (by simpa using hlt) HNB.out (HSC.out.trans hS)))
              clear hcon hS
              refine HC.out.mono ?_
              rintro e w2 ⟨rfl, hg2⟩
              refine ⟨rfl, ?_⟩
              exact ⟨_, HE.out, rfl, grown_trans hg hg2⟩
            · rw [hS] at hcon
              have HC := Lib.hid hcon
              have hend := scanAt_end (by simpa using hlt) (HSC.out.trans hS)
              have HK := Lib.hid (fun r hr => HL.out r (Lexes.tok (by simpa using hlt) HNB.out (HSC.out.trans hS) hr))
              clear hcon hS
              refine HC.out.mono ?_
              rintro e w2 ⟨rfl, hsc2, hg2⟩
              have hno : u3.ownBlock ≠ some b := fun e => by have := (HO.out.lt b e).1; omega
              have ho2 := HO.out.kept hg2 (.inr hno)
              have hlt2 : ∀ g, u3.ownBlock = some g → w.heap.size ≤ g := fun g e => (HO.out.lt g e).1
              have hG2 := grown_trans hg hg2
              have hf1 : f ≤ s.size := by simpa using hend.2.1
              have hf2 : k < f := hend.1
              clear hend HC HO
              unfold tokV strV
              go_wp2_with (at_builtin; refine wpList_append_own_at _ rfl (.tmp 52) (.tmp 55) 89 rfl w.heap.size 95 i0 _ 4 40 Tryz.underlying89 hi0 hz0 hz1 hz2 rfl (by omega) u3 T.length (T.flatMap tokL) rfl (ho2.alloc _) ⟨w2.heap.size, 0, none⟩ 1 1 (tokL t) rfl rfl (cell_lit4 _ _ _ _ _ _) ?one ?c3 ?c4 ?c5 ?_)
              case one => exact tok_one t
              case c3 => unfold maxLen; omega
              case c4 => omega
              case c5 => exact Nat.le_trans hG2.size (by simp)
              intro v3 w3 hown3 hg3 _ hat3
              have hsc3 : Sc w3 b s f := (hg3.block _ (by have := hsc2.lt; simp; omega) (fun e => hno e.symm)).trans (hsc2.alloc _)
              have hG3 := grown_own (grown_trans hG2 (World.grownBy_alloc w2 _ _)) hg3 hlt2
              have HO3 : Hid (w3.ownsRow w.heap.size 95 4 v3 (T ++ [t]).length ((T ++ [t]).flatMap tokL)) := Lib.hid (by rw [List.flatMap_append, List.length_append]; simpa using hown3)
              clear hown3 hg3 hat3 ho2 hlt2 hno hG2 hg2 hsc2
              go_wp2_with fail
              refine (run_blank b s f w3 hsc3 (by omega) hs).mono ?_
              rintro e w4 ⟨rfl, hsc4, hg4⟩
              have hno3 : v3.ownBlock ≠ some b := fun e => by have := (HO3.out.lt b e).1; omega
              have HO4 := Lib.hid (HO3.out.kept hg4 (.inr hno3))
              have hr1 := runEnd_ge blankB s.data.toList f
              have hr2 : runEnd blankB s.data.toList f ≤ s.size := by simpa using runEnd_le blankB s.data.toList f (by simpa using hf1)
              have HN4 : Hid (∀ hh : runEnd blankB s.data.toList f < s.size, blankB s[runEnd blankB s.data.toList f].toNat = false) := Lib.hid (fun hh => run_not (cls := blankB) (l := s.data.toList) (a := f) (by simpa using hh))
              have HK4 := Lib.hid (fun r (hr : Lexes s.data.toList (runEnd blankB s.data.toList f) (T ++ [t]) r) => HK.out r (Lexes.run hr))
              have hG4 := grown_trans hG3 hg4
              clear hno3 HO3 HK hg4 hsc3
              generalize runEnd blankB s.data.toList f = k4 at hr1 hr2 HN4 HK4 hsc4 ⊢
              go_wp2_with fail
              go_roundg (s.size - k4)
              case measure => omega
              case rel => exact ⟨k4, T ++ [t], by omega, by rw [List.length_append]; simp; omega, hsc4, HO4.out, hG4, HK4.out, HN4.out⟩
          · have HSC : Hid (scanAt s.data.toList k s[k] = symScan s.data.toList k) := Lib.hid (by unfold scanAt; rw [hcl, hcd, if_neg (by decide), if_neg (by decide), if_neg (ne39 hq)])
            have q1 : ((s[k].toNat : Int) == 39) = false := beq_eq_false_iff_ne.2 (by omega)
            clear hcl hcd hq
            go_wp2_with fail
            refine CD.out.mono ?_
            rintro e w' ⟨rfl, rfl⟩
            go_wp2_with fail
            have hcon := scan_symbol b s k wr hsc hlt hs
            rcases hS : symScan s.data.toList k with c | ⟨t, f⟩
            · rw [hS] at hcon
              have HC := Lib.hid hcon
              have HE := Lib.hid (HL.out _ (Lexes.err (by simpa using hlt) HNB.out (HSC.out.trans hS)))
              clear hcon hS
              refine HC.out.mono ?_
              rintro e w2 ⟨rfl, hg2⟩
              refine ⟨rfl, ?_⟩
              exact ⟨_, HE.out, rfl, grown_trans hg hg2⟩
            · rw [hS] at hcon
              have HC := Lib.hid hcon
              have hend := scanAt_end (by simpa using hlt) (HSC.out.trans hS)
              have HK := Lib.hid (fun r hr => HL.out r (Lexes.tok (by simpa using hlt) HNB.out (HSC.out.trans hS) hr))
              clear hcon hS
              refine HC.out.mono ?_
              rintro e w2 ⟨rfl, hsc2, hg2⟩
              have hno : u3.ownBlock ≠ some b := fun e => by have := (HO.out.lt b e).1; omega
              have ho2 := HO.out.kept hg2 (.inr hno)
              have hlt2 : ∀ g, u3.ownBlock = some g → w.heap.size ≤ g := fun g e => (HO.out.lt g e).1
              have hG2 := grown_trans hg hg2
              have hf1 : f ≤ s.size := by simpa using hend.2.1
              have hf2 : k < f := hend.1
              clear hend HC HO
              unfold tokV strV
              go_wp2_with (at_builtin; refine wpList_append_own_at _ rfl (.tmp 28) (.tmp 31) 89 rfl w.heap.size 95 i0 _ 4 40 Tryz.underlying89 hi0 hz0 hz1 hz2 rfl (by omega) u3 T.length (T.flatMap tokL) rfl (ho2.alloc _) ⟨w2.heap.size, 0, none⟩ 1 1 (tokL t) rfl rfl (cell_lit4 _ _ _ _ _ _) ?one ?c3 ?c4 ?c5 ?_)
              case one => exact tok_one t
              case c3 => unfold maxLen; omega
              case c4 => omega
              case c5 => exact Nat.le_trans hG2.size (by simp)
              intro v3 w3 hown3 hg3 _ hat3
              have hsc3 : Sc w3 b s f := (hg3.block _ (by have := hsc2.lt; simp; omega) (fun e => hno e.symm)).trans (hsc2.alloc _)
              have hG3 := grown_own (grown_trans hG2 (World.grownBy_alloc w2 _ _)) hg3 hlt2
              have HO3 : Hid (w3.ownsRow w.heap.size 95 4 v3 (T ++ [t]).length ((T ++ [t]).flatMap tokL)) := Lib.hid (by rw [List.flatMap_append, List.length_append]; simpa using hown3)
              clear hown3 hg3 hat3 ho2 hlt2 hno hG2 hg2 hsc2
              go_wp2_with fail
              refine (run_blank b s f w3 hsc3 (by omega) hs).mono ?_
              rintro e w4 ⟨rfl, hsc4, hg4⟩
              have hno3 : v3.ownBlock ≠ some b := fun e => by have := (HO3.out.lt b e).1; omega
              have HO4 := Lib.hid (HO3.out.kept hg4 (.inr hno3))
              have hr1 := runEnd_ge blankB s.data.toList f
              have hr2 : runEnd blankB s.data.toList f ≤ s.size := by simpa using runEnd_le blankB s.data.toList f (by simpa using hf1)
              have HN4 : Hid (∀ hh : runEnd blankB s.data.toList f < s.size, blankB s[runEnd blankB s.data.toList f].toNat = false) := Lib.hid (fun hh => run_not (cls := blankB) (l := s.data.toList) (a := f) (by simpa using hh))
              have HK4 := Lib.hid (fun r (hr : Lexes s.data.toList (runEnd blankB s.data.toList f) (T ++ [t]) r) => HK.out r (Lexes.run hr))
              have hG4 := grown_trans hG3 hg4
              clear hno3 HO3 HK hg4 hsc3
              generalize runEnd blankB s.data.toList f = k4 at hr1 hr2 HN4 HK4 hsc4 ⊢
              go_wp2_with fail
              go_roundg (s.size - k4)
              case measure => omega
              case rel => exact ⟨k4, T ++ [t], by omega, by rw [List.length_append]; simp; omega, hsc4, HO4.out, hG4, HK4.out, HN4.out⟩
        · have HSC : Hid (scanAt s.data.toList k s[k] = numberScan s.data.toList k) := Lib.hid (by unfold scanAt; rw [hcl, hcd, if_neg (by decide), if_pos rfl])
          have HD := Lib.hid hcd
          rw [hcd] at cd
          have CD := Lib.hid cd
          clear cd hcl hcd
          go_wp2_with fail
          refine CD.out.mono ?_
          rintro e w' ⟨rfl, rfl⟩
          go_wp2_with fail
          have hcon := scan_number b s k wr hsc hlt HD.out hs
          rcases hS : numberScan s.data.toList k with c | ⟨t, f⟩
          · rw [hS] at hcon
            have HC := Lib.hid hcon
            have HE := Lib.hid (HL.out _ (Lexes.err (by simpa using hlt) HNB.out (HSC.out.trans hS)))
            clear hcon hS
            refine HC.out.mono ?_
            rintro e w2 ⟨rfl, hg2⟩
            refine ⟨rfl, ?_⟩
            exact ⟨_, HE.out, rfl, grown_trans hg hg2⟩
          · rw [hS] at hcon
            have HC := Lib.hid hcon
            have hend := scanAt_end (by simpa using hlt) (HSC.out.trans hS)
            have HK := Lib.hid (fun r hr => HL.out r (Lexes.tok (by simpa using hlt) HNB.out (HSC.out.trans hS) hr))
            clear hcon hS
            refine HC.out.mono ?_
            rintro e w2 ⟨rfl, hsc2, hg2⟩
            have hno : u3.ownBlock ≠ some b := fun e => by have := (HO.out.lt b e).1; omega
            have ho2 := HO.out.kept hg2 (.inr hno)
            have hlt2 : ∀ g, u3.ownBlock = some g → w.heap.size ≤ g := fun g e => (HO.out.lt g e).1
            have hG2 := grown_trans hg hg2
            have hf1 : f ≤ s.size := by simpa using hend.2.1
            have hf2 : k < f := hend.1
            clear hend HC HO
            unfold tokV strV
            go_wp2_with (at_builtin; refine wpList_append_own_at _ rfl (.tmp 44) (.tmp 47) 89 rfl w.heap.size 95 i0 _ 4 40 Tryz.underlying89 hi0 hz0 hz1 hz2 rfl (by omega) u3 T.length (T.flatMap tokL) rfl (ho2.alloc _) ⟨w2.heap.size, 0, none⟩ 1 1 (tokL t) rfl rfl (cell_lit4 _ _ _ _ _ _) ?one ?c3 ?c4 ?c5 ?_)
            case one => exact tok_one t
            case c3 => unfold maxLen; omega
            case c4 => omega
            case c5 => exact Nat.le_trans hG2.size (by simp)
            intro v3 w3 hown3 hg3 _ hat3
            have hsc3 : Sc w3 b s f := (hg3.block _ (by have := hsc2.lt; simp; omega) (fun e => hno e.symm)).trans (hsc2.alloc _)
            have hG3 := grown_own (grown_trans hG2 (World.grownBy_alloc w2 _ _)) hg3 hlt2
            have HO3 : Hid (w3.ownsRow w.heap.size 95 4 v3 (T ++ [t]).length ((T ++ [t]).flatMap tokL)) := Lib.hid (by rw [List.flatMap_append, List.length_append]; simpa using hown3)
            clear hown3 hg3 hat3 ho2 hlt2 hno hG2 hg2 hsc2
            go_wp2_with fail
            refine (run_blank b s f w3 hsc3 (by omega) hs).mono ?_
            rintro e w4 ⟨rfl, hsc4, hg4⟩
            have hno3 : v3.ownBlock ≠ some b := fun e => by have := (HO3.out.lt b e).1; omega
            have HO4 := Lib.hid (HO3.out.kept hg4 (.inr hno3))
            have hr1 := runEnd_ge blankB s.data.toList f
            have hr2 : runEnd blankB s.data.toList f ≤ s.size := by simpa using runEnd_le blankB s.data.toList f (by simpa using hf1)
            have HN4 : Hid (∀ hh : runEnd blankB s.data.toList f < s.size, blankB s[runEnd blankB s.data.toList f].toNat = false) := Lib.hid (fun hh => run_not (cls := blankB) (l := s.data.toList) (a := f) (by simpa using hh))
            have HK4 := Lib.hid (fun r (hr : Lexes s.data.toList (runEnd blankB s.data.toList f) (T ++ [t]) r) => HK.out r (Lexes.run hr))
            have hG4 := grown_trans hG3 hg4
            clear hno3 HO3 HK hg4 hsc3
            generalize runEnd blankB s.data.toList f = k4 at hr1 hr2 HN4 HK4 hsc4 ⊢
            go_wp2_with fail
            go_roundg (s.size - k4)
            case measure => omega
            case rel => exact ⟨k4, T ++ [t], by omega, by rw [List.length_append]; simp; omega, hsc4, HO4.out, hG4, HK4.out, HN4.out⟩
      · have HSC : Hid (scanAt s.data.toList k s[k] = wordScan s.data.toList k) := Lib.hid (by unfold scanAt; rw [hcl, if_pos rfl])
        rw [hcl] at cl
        have CL := Lib.hid cl
        clear cl hcl
        go_wp2_with fail
        refine CL.out.mono ?_
        rintro e w' ⟨rfl, rfl⟩
        go_wp2_with fail
        have hcon := scan_word b s k wr hsc (ht.grown h hg) (by omega) hs
        rcases hS : wordScan s.data.toList k with c | ⟨t, f⟩
        · rw [hS] at hcon
          have HC := Lib.hid hcon
          have HE := Lib.hid (HL.out _ (Lexes.err (by simpa using hlt) HNB.out (HSC.out.trans hS)))
          clear hcon hS
          refine HC.out.mono ?_
          rintro e w2 ⟨rfl, hg2⟩
          refine ⟨rfl, ?_⟩
          exact ⟨_, HE.out, rfl, grown_trans hg hg2⟩
        · rw [hS] at hcon
          have HC := Lib.hid hcon
          have hend := scanAt_end (by simpa using hlt) (HSC.out.trans hS)
          have HK := Lib.hid (fun r hr => HL.out r (Lexes.tok (by simpa using hlt) HNB.out (HSC.out.trans hS) hr))
          clear hcon hS
          refine HC.out.mono ?_
          rintro e w2 ⟨rfl, hsc2, hg2⟩
          have hno : u3.ownBlock ≠ some b := fun e => by have := (HO.out.lt b e).1; omega
          have ho2 := HO.out.kept hg2 (.inr hno)
          have hlt2 : ∀ g, u3.ownBlock = some g → w.heap.size ≤ g := fun g e => (HO.out.lt g e).1
          have hG2 := grown_trans hg hg2
          have hf1 : f ≤ s.size := by simpa using hend.2.1
          have hf2 : k < f := hend.1
          clear hend HC HO
          unfold tokV strV
          go_wp2_with (at_builtin; refine wpList_append_own_at _ rfl (.tmp 36) (.tmp 39) 89 rfl w.heap.size 95 i0 _ 4 40 Tryz.underlying89 hi0 hz0 hz1 hz2 rfl (by omega) u3 T.length (T.flatMap tokL) rfl (ho2.alloc _) ⟨w2.heap.size, 0, none⟩ 1 1 (tokL t) rfl rfl (cell_lit4 _ _ _ _ _ _) ?one ?c3 ?c4 ?c5 ?_)
          case one => exact tok_one t
          case c3 => unfold maxLen; omega
          case c4 => omega
          case c5 => exact Nat.le_trans hG2.size (by simp)
          intro v3 w3 hown3 hg3 _ hat3
          have hsc3 : Sc w3 b s f := (hg3.block _ (by have := hsc2.lt; simp; omega) (fun e => hno e.symm)).trans (hsc2.alloc _)
          have hG3 := grown_own (grown_trans hG2 (World.grownBy_alloc w2 _ _)) hg3 hlt2
          have HO3 : Hid (w3.ownsRow w.heap.size 95 4 v3 (T ++ [t]).length ((T ++ [t]).flatMap tokL)) := Lib.hid (by rw [List.flatMap_append, List.length_append]; simpa using hown3)
          clear hown3 hg3 hat3 ho2 hlt2 hno hG2 hg2 hsc2
          go_wp2_with fail
          refine (run_blank b s f w3 hsc3 (by omega) hs).mono ?_
          rintro e w4 ⟨rfl, hsc4, hg4⟩
          have hno3 : v3.ownBlock ≠ some b := fun e => by have := (HO3.out.lt b e).1; omega
          have HO4 := Lib.hid (HO3.out.kept hg4 (.inr hno3))
          have hr1 := runEnd_ge blankB s.data.toList f
          have hr2 : runEnd blankB s.data.toList f ≤ s.size := by simpa using runEnd_le blankB s.data.toList f (by simpa using hf1)
          have HN4 : Hid (∀ hh : runEnd blankB s.data.toList f < s.size, blankB s[runEnd blankB s.data.toList f].toNat = false) := Lib.hid (fun hh => run_not (cls := blankB) (l := s.data.toList) (a := f) (by simpa using hh))
          have HK4 := Lib.hid (fun r (hr : Lexes s.data.toList (runEnd blankB s.data.toList f) (T ++ [t]) r) => HK.out r (Lexes.run hr))
          have hG4 := grown_trans hG3 hg4
          clear hno3 HO3 HK hg4 hsc3
          generalize runEnd blankB s.data.toList f = k4 at hr1 hr2 HN4 HK4 hsc4 ⊢
          go_wp2_with fail
          go_roundg (s.size - k4)
          case measure => omega
          case rel => exact ⟨k4, T ++ [t], by omega, by rw [List.length_append]; simp; omega, hsc4, HO4.out, hG4, HK4.out, HN4.out⟩
    · obtain rfl : k = s.size := by omega
      have d1 : decide ((s.size : Int) < (s.size : Int)) = false := by simp
      have HE := Lib.hid (HL.out _ (Lexes.fin (by simp)))
      clear hnb HL
      go_wp2_with fail
      go_quiet (fail)
      replace hg := only_drewN hg nq
      replace HO : Hid ((wr.drewN nq).ownsRow w.heap.size 95 4 u3 T.length (T.flatMap tokL)) := Lib.hid HO.out
      clear t0 t1 hsc
      generalize wr.drewN nq = w1 at hg HO ⊢
      go_wp2_with fail
      go_ret
      exact ⟨_, HE.out, _, rfl, HO.out, hg⟩
end Go.Proofs.YtpmncgbpbcgfaaaGreatDoor
