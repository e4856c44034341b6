/-
  The reference's Tokens.
-/
import Derived.Test.YtlbmamcchomecaaDoorLrScanT
import Derived.Test.YtlbmamcchomecaaDoorLrScanS
namespace Go.Proofs.YtlbmamcchomecaaDoor
open Go.RowKit
set_option linter.unusedVariables false
set_option linter.unusedSimpArgs false

theorem cell_lit4' (w : World) (u0 u1 u2 u3 : Value) (e : TypeId) (n : Nat) (hn : w.heap.size = n) : ∀ j x, [u0, u1, u2, u3][j]? = some x → (w.alloc (.cells #[u0, u1, u2, u3] e)).cell? ((⟨n, 0, none⟩ : Addr).add j) = some x := by
  subst hn
  exact cell_lit4 w u0 u1 u2 u3 e
theorem own_empty4 (w : World) (e : TypeId) (base : Nat) (hb : base ≤ w.heap.size) : (w.alloc (.cells #[] e)).ownsRow base e 4 (.slice (some ⟨w.heap.size, 0, none⟩) 0 0) 0 [] :=
  ⟨by simp, .inr ⟨w.heap.size, 0, #[], rfl, hb, heap_alloc_new w _, Nat.le_refl _, by unfold maxLen; omega, by simp, by simp⟩⟩
def RtRel (w : World) (s : ByteArray) (v i : Value) (wr : World) : Prop :=
  ∃ (k : Nat) (T : List Tok), k ≤ s.size ∧ i = .int .i64 k ∧ T.length ≤ k ∧ wr.ownsRow w.heap.size 30 4 v T.length (T.flatMap tokL) ∧ Below w.heap.size w wr ∧ ∀ r, Lexes s.data.toList k T r → Lexes s.data.toList 0 [] r
set_option maxRecDepth 100000 in
set_option maxHeartbeats 1000000 in
theorem refTokens_long (s : ByteArray) (w : World) (hs : 65536 < s.size) : Calls Tryd.prog 8 #[.string s] w (TokPost w s) := by
  have h1 : (65536 : Int) < (s.size : Int) := by omega
  have HC := Lib.hid (show Comes_ s.data.toList (.err 0 5) from .inl ⟨by rw [size_list]; exact hs, rfl⟩)
  go_enter Tryd.func8, Tryd.ntmps8
  go_wp2_with fail
  go_ret3
  exact ⟨_, HC.out, rfl, Below.refl _ _⟩
set_option maxRecDepth 100000 in
set_option maxHeartbeats 4000000 in
theorem refTokens_short (s : ByteArray) (w : World) (hs : s.size ≤ 65536) : Calls Tryd.prog 8 #[.string s] w (TokPost w s) := by
  obtain ⟨i0, hi0, hz0, hz1, hz2⟩ := info_parts info_tok
  have h1 : ¬ (65536 : Int) < (s.size : Int) := by omega
  go_enter Tryd.func8, Tryd.ntmps8
  go_wp2_with fail
  go_loopw [5, 6] (fun v i wr => RtRel w s v i wr) (fun _ i _ => s.size - (intOf i).toNat)
  case atStart => exact ⟨0, [], Nat.zero_le _, rfl, by simp, own_empty4 w _ _ (Nat.le_refl _), (Below.refl _ _).alloc (Nat.le_refl _) _, fun r h => h⟩
  case round =>
    obtain ⟨k, T, hks, rfl, hTl, ho, hb, hl⟩ := hrel
    have HL := Lib.hid hl
    clear hl
    by_cases hlt : k < s.size
    · have i0' : (0 : Int) ≤ (k : Int) := by omega
      have i1' : (k : Int) < (s.size : Int) := by omega
      have hb8 : s[k].toNat < 256 := s[k].toNat_lt
      have CB := Lib.hid (refBlank_any s[k].toNat wr hb8)
      rcases hbk : blankB s[k].toNat with _ | _
      · have HNB := Lib.hid hbk
        rw [hbk] at CB
        clear hbk
        have hlt2 : ∀ g, u5.ownBlock = some g → w.heap.size ≤ g := fun g e => (ho.lt g e).1
        have hk := Tk.new wr (.int .i64 0) (.string ⟨#[]⟩) (.int .i64 0) (.int .i64 0)
        have hGo : u5.ownBlock ≠ some wr.heap.size := fun e => by have := (ho.lt _ e).2; omega
        have hGw := hb.size
        replace hb := hb.alloc hb.size (.cells #[.int .i64 0, .string ⟨#[]⟩, .int .i64 0, .int .i64 0] 30)
        have HO := Lib.hid (ho.alloc (.cells #[.int .i64 0, .string ⟨#[]⟩, .int .i64 0, .int .i64 0] 30))
        clear ho
        go_wp2_with fail
        refine CB.out.mono ?_
        rintro e w' ⟨rfl, rfl⟩
        go_wp2_with fail
        generalize hG : wr.heap.size = G at hk hGo hGw ⊢
        clear hG CB
        generalize wr.alloc (.cells #[.int .i64 0, .string ⟨#[]⟩, .int .i64 0, .int .i64 0] 30) = w1 at hk hb HO ⊢
        have CL := Lib.hid (refLetter_any s[k].toNat w1 hb8)
        have CD := Lib.hid (refDigit_any s[k].toNat w1 hb8)
        rcases hcl : letterB s[k].toNat with _ | _
        · rw [hcl] at CL
          refine CL.out.mono ?_
          rintro e w' ⟨rfl, rfl⟩
          rcases hcd : digitB s[k].toNat with _ | _
          · rw [hcd] at CD
            by_cases hq : s[k].toNat = 39
            · have HSC : Hid (scanAt s.data.toList k s[k] = textScan s.data.toList k) := Lib.hid (by unfold scanAt; rw [hcl, hcd, if_neg (by decide), if_neg (by decide), if_pos (eq39 hq)])
              have q1 : ((s[k].toNat : Int) == 39) = true := beq_iff_eq.2 (by omega)
              clear hcl hcd hq CL
              go_wp2_with fail
              refine CD.out.mono ?_
              rintro e w' ⟨rfl, rfl⟩
              clear CD
              go_wp2_with fail
              have hcon := text_scan_ref s k w1 hlt hs
              rcases hS : textScan s.data.toList k with c | ⟨t, f⟩
              · rw [hS] at hcon
                have HC := Lib.hid hcon
                have HE := Lib.hid (HL.out _ (Lexes.err (by simpa using hlt) HNB.out (HSC.out.trans hS)))
                have hcne := scanAt_err (HSC.out.trans hS)
                have c1 : ((c : Int) != 0) = true := by rw [bne_iff_ne]; omega
                clear hcon hS
                refine HC.out.mono ?_
                rintro e w2 ⟨rfl, hb2⟩
                replace hb := hb.trans (hb2.mono hb.size)
                replace hk := hk.below hb2
                clear hb2 HC
                have cx0 := hk.c0
                have cx1 := hk.c1
                have cx2 := hk.c2
                have cx3 := hk.c3
                have f0 := hk.free 0
                have f1 := hk.free 1
                have f2 := hk.free 2
                have f3 := hk.free 3
                go_wp2_with fail
                go_ret3
                exact ⟨_, .inr ⟨by rw [size_list]; exact hs, HE.out⟩, rfl, (((hb.setCell hGw _).setCell hGw _).setCell hGw _).setCell hGw _⟩
              · rw [hS] at hcon
                have HC := Lib.hid hcon
                have hend := scanAt_end (by simpa using hlt) (HSC.out.trans hS)
                have HK := Lib.hid (fun r hr => HL.out r (Lexes.tok (by simpa using hlt) HNB.out (HSC.out.trans hS) hr))
                clear hcon hS
                refine HC.out.mono ?_
                rintro e w2 ⟨rfl, hb2⟩
                have ho2 := HO.out.kept (w' := w2) (row := none) ⟨hb2.os, hb2.tape, hb2.output, hb2.size, fun i hi _ => hb2.block i hi⟩ (by rcases u5.ownBlock with _ | g; exact .inl rfl; exact .inr (by simp))
                replace hb := hb.trans (hb2.mono hb.size)
                replace hk := hk.below hb2
                have hf1 : f ≤ s.size := by simpa using hend.2.1
                have hf2 : k < f := hend.1
                have ho3 := own_far (own_far (own_far (own_far ho2 hGo 0 (.int .i64 (t.kind : Int))) hGo 1 (.string ⟨t.text.toArray⟩)) hGo 2 (.int .i64 (t.int : Int))) hGo 3 (.int .i64 (t.at_ : Int))
                have hb3 := (((hb.setCell (p := ⟨G, 0, none⟩) hGw (.int .i64 (t.kind : Int))).setCell (p := ⟨G, 1, none⟩) hGw (.string ⟨t.text.toArray⟩)).setCell (p := ⟨G, 2, none⟩) hGw (.int .i64 (t.int : Int))).setCell (p := ⟨G, 3, none⟩) hGw (.int .i64 (t.at_ : Int))
                clear hend HC HO hb2 ho2
                have cx0 := hk.c0
                have cx1 := hk.c1
                have cx2 := hk.c2
                have cx3 := hk.c3
                have f0 := hk.free 0
                have f1 := hk.free 1
                have f2 := hk.free 2
                have f3 := hk.free 3
                unfold tokV strV
                have HO3 := Lib.hid ho3
                have HB3 := Lib.hid hb3
                clear ho3 hb3
                go_wp2_with (at_builtin; refine wpList_append_own_at _ rfl (.tmp 69) (.tmp 71) 22 rfl w.heap.size 30 i0 _ 4 40 Tryd.underlying22 hi0 hz0 hz1 hz2 rfl (by omega) u5 T.length (T.flatMap tokL) rfl (HO3.out.alloc _) ⟨w2.heap.size, 0, none⟩ 1 1 (tokL t) rfl rfl (cell_lit4' _ _ _ _ _ _ _ (by simp [World.setCell])) ?one ?c3 ?c4 ?c5 ?_)
                case one => exact tok_one t
                case c3 => unfold maxLen; omega
                case c4 => omega
                case c5 => exact Nat.le_trans HB3.out.size (by simp)
                intro v3 w3 hown3 hg3 _ hat3
                have hb4 : Below w.heap.size w w3 := (HB3.out.alloc HB3.out.size _).grown hg3 (Nat.le_trans HB3.out.size (by simp)) hlt2
                have HO4 : Hid (w3.ownsRow w.heap.size 30 4 v3 (T ++ [t]).length ((T ++ [t]).flatMap tokL)) := Lib.hid (by rw [List.flatMap_append, List.length_append]; simpa using hown3)
                clear hown3 hg3 hat3 HO3 HB3
                go_wp2_with fail
                go_roundw
                case rel => exact ⟨f, T ++ [t], hf1, rfl, by rw [List.length_append]; simp; omega, HO4.out, hb4, HK.out⟩
                case measure => simp [intOf]; omega
            · have HSC : Hid (scanAt s.data.toList k s[k] = symScan s.data.toList k) := Lib.hid (by unfold scanAt; rw [hcl, hcd, if_neg (by decide), if_neg (by decide), if_neg (ne39 hq)])
              have q1 : ((s[k].toNat : Int) == 39) = false := beq_eq_false_iff_ne.2 (by omega)
              clear hcl hcd hq CL
              go_wp2_with fail
              refine CD.out.mono ?_
              rintro e w' ⟨rfl, rfl⟩
              clear CD
              go_wp2_with fail
              have hcon := symbol_scan_ref s k w1 hlt hs
              rcases hS : symScan s.data.toList k with c | ⟨t, f⟩
              · rw [hS] at hcon
                have HC := Lib.hid hcon
                have HE := Lib.hid (HL.out _ (Lexes.err (by simpa using hlt) HNB.out (HSC.out.trans hS)))
                have hcne := scanAt_err (HSC.out.trans hS)
                have c1 : ((c : Int) != 0) = true := by rw [bne_iff_ne]; omega
                clear hcon hS
                refine HC.out.mono ?_
                rintro e w2 ⟨rfl, hb2⟩
                replace hb := hb.trans (hb2.mono hb.size)
                replace hk := hk.below hb2
                clear hb2 HC
                have cx0 := hk.c0
                have cx1 := hk.c1
                have cx2 := hk.c2
                have cx3 := hk.c3
                have f0 := hk.free 0
                have f1 := hk.free 1
                have f2 := hk.free 2
                have f3 := hk.free 3
                go_wp2_with fail
                go_ret3
                exact ⟨_, .inr ⟨by rw [size_list]; exact hs, HE.out⟩, rfl, (((hb.setCell hGw _).setCell hGw _).setCell hGw _).setCell hGw _⟩
              · rw [hS] at hcon
                have HC := Lib.hid hcon
                have hend := scanAt_end (by simpa using hlt) (HSC.out.trans hS)
                have HK := Lib.hid (fun r hr => HL.out r (Lexes.tok (by simpa using hlt) HNB.out (HSC.out.trans hS) hr))
                clear hcon hS
                refine HC.out.mono ?_
                rintro e w2 ⟨rfl, hb2⟩
                have ho2 := HO.out.kept (w' := w2) (row := none) ⟨hb2.os, hb2.tape, hb2.output, hb2.size, fun i hi _ => hb2.block i hi⟩ (by rcases u5.ownBlock with _ | g; exact .inl rfl; exact .inr (by simp))
                replace hb := hb.trans (hb2.mono hb.size)
                replace hk := hk.below hb2
                have hf1 : f ≤ s.size := by simpa using hend.2.1
                have hf2 : k < f := hend.1
                have ho3 := own_far (own_far (own_far (own_far ho2 hGo 0 (.int .i64 (t.kind : Int))) hGo 1 (.string ⟨t.text.toArray⟩)) hGo 2 (.int .i64 (t.int : Int))) hGo 3 (.int .i64 (t.at_ : Int))
                have hb3 := (((hb.setCell (p := ⟨G, 0, none⟩) hGw (.int .i64 (t.kind : Int))).setCell (p := ⟨G, 1, none⟩) hGw (.string ⟨t.text.toArray⟩)).setCell (p := ⟨G, 2, none⟩) hGw (.int .i64 (t.int : Int))).setCell (p := ⟨G, 3, none⟩) hGw (.int .i64 (t.at_ : Int))
                clear hend HC HO hb2 ho2
                have cx0 := hk.c0
                have cx1 := hk.c1
                have cx2 := hk.c2
                have cx3 := hk.c3
                have f0 := hk.free 0
                have f1 := hk.free 1
                have f2 := hk.free 2
                have f3 := hk.free 3
                unfold tokV strV
                have HO3 := Lib.hid ho3
                have HB3 := Lib.hid hb3
                clear ho3 hb3
                go_wp2_with (at_builtin; refine wpList_append_own_at _ rfl (.tmp 69) (.tmp 71) 22 rfl w.heap.size 30 i0 _ 4 40 Tryd.underlying22 hi0 hz0 hz1 hz2 rfl (by omega) u5 T.length (T.flatMap tokL) rfl (HO3.out.alloc _) ⟨w2.heap.size, 0, none⟩ 1 1 (tokL t) rfl rfl (cell_lit4' _ _ _ _ _ _ _ (by simp [World.setCell])) ?one ?c3 ?c4 ?c5 ?_)
                case one => exact tok_one t
                case c3 => unfold maxLen; omega
                case c4 => omega
                case c5 => exact Nat.le_trans HB3.out.size (by simp)
                intro v3 w3 hown3 hg3 _ hat3
                have hb4 : Below w.heap.size w w3 := (HB3.out.alloc HB3.out.size _).grown hg3 (Nat.le_trans HB3.out.size (by simp)) hlt2
                have HO4 : Hid (w3.ownsRow w.heap.size 30 4 v3 (T ++ [t]).length ((T ++ [t]).flatMap tokL)) := Lib.hid (by rw [List.flatMap_append, List.length_append]; simpa using hown3)
                clear hown3 hg3 hat3 HO3 HB3
                go_wp2_with fail
                go_roundw
                case rel => exact ⟨f, T ++ [t], hf1, rfl, by rw [List.length_append]; simp; omega, HO4.out, hb4, HK.out⟩
                case measure => simp [intOf]; omega
          · have HSC : Hid (scanAt s.data.toList k s[k] = numberScan s.data.toList k) := Lib.hid (by unfold scanAt; rw [hcl, hcd, if_neg (by decide), if_pos rfl])
            have HD := Lib.hid hcd
            rw [hcd] at CD
            clear hcl hcd CL
            go_wp2_with fail
            refine CD.out.mono ?_
            rintro e w' ⟨rfl, rfl⟩
            clear CD
            go_wp2_with fail
            have hcon := number_scan_ref s k w1 hlt HD.out hs
            rcases hS : numberScan s.data.toList k with c | ⟨t, f⟩
            · rw [hS] at hcon
              have HC := Lib.hid hcon
              have HE := Lib.hid (HL.out _ (Lexes.err (by simpa using hlt) HNB.out (HSC.out.trans hS)))
              have hcne := scanAt_err (HSC.out.trans hS)
              have c1 : ((c : Int) != 0) = true := by rw [bne_iff_ne]; omega
              clear hcon hS
              refine HC.out.mono ?_
              rintro e w2 ⟨rfl, hb2⟩
              replace hb := hb.trans (hb2.mono hb.size)
              replace hk := hk.below hb2
              clear hb2 HC
              have cx0 := hk.c0
              have cx1 := hk.c1
              have cx2 := hk.c2
              have cx3 := hk.c3
              have f0 := hk.free 0
              have f1 := hk.free 1
              have f2 := hk.free 2
              have f3 := hk.free 3
              go_wp2_with fail
              go_ret3
              exact ⟨_, .inr ⟨by rw [size_list]; exact hs, HE.out⟩, rfl, (((hb.setCell hGw _).setCell hGw _).setCell hGw _).setCell hGw _⟩
            · rw [hS] at hcon
              have HC := Lib.hid hcon
              have hend := scanAt_end (by simpa using hlt) (HSC.out.trans hS)
              have HK := Lib.hid (fun r hr => HL.out r (Lexes.tok (by simpa using hlt) HNB.out (HSC.out.trans hS) hr))
              clear hcon hS
              refine HC.out.mono ?_
              rintro e w2 ⟨rfl, hb2⟩
              have ho2 := HO.out.kept (w' := w2) (row := none) ⟨hb2.os, hb2.tape, hb2.output, hb2.size, fun i hi _ => hb2.block i hi⟩ (by rcases u5.ownBlock with _ | g; exact .inl rfl; exact .inr (by simp))
              replace hb := hb.trans (hb2.mono hb.size)
              replace hk := hk.below hb2
              have hf1 : f ≤ s.size := by simpa using hend.2.1
              have hf2 : k < f := hend.1
              have ho3 := own_far (own_far (own_far (own_far ho2 hGo 0 (.int .i64 (t.kind : Int))) hGo 1 (.string ⟨t.text.toArray⟩)) hGo 2 (.int .i64 (t.int : Int))) hGo 3 (.int .i64 (t.at_ : Int))
              have hb3 := (((hb.setCell (p := ⟨G, 0, none⟩) hGw (.int .i64 (t.kind : Int))).setCell (p := ⟨G, 1, none⟩) hGw (.string ⟨t.text.toArray⟩)).setCell (p := ⟨G, 2, none⟩) hGw (.int .i64 (t.int : Int))).setCell (p := ⟨G, 3, none⟩) hGw (.int .i64 (t.at_ : Int))
              clear hend HC HO hb2 ho2
              have cx0 := hk.c0
              have cx1 := hk.c1
              have cx2 := hk.c2
              have cx3 := hk.c3
              have f0 := hk.free 0
              have f1 := hk.free 1
              have f2 := hk.free 2
              have f3 := hk.free 3
              unfold tokV strV
              have HO3 := Lib.hid ho3
              have HB3 := Lib.hid hb3
              clear ho3 hb3
              go_wp2_with (at_builtin; refine wpList_append_own_at _ rfl (.tmp 69) (.tmp 71) 22 rfl w.heap.size 30 i0 _ 4 40 Tryd.underlying22 hi0 hz0 hz1 hz2 rfl (by omega) u5 T.length (T.flatMap tokL) rfl (HO3.out.alloc _) ⟨w2.heap.size, 0, none⟩ 1 1 (tokL t) rfl rfl (cell_lit4' _ _ _ _ _ _ _ (by simp [World.setCell])) ?one ?c3 ?c4 ?c5 ?_)
              case one => exact tok_one t
              case c3 => unfold maxLen; omega
              case c4 => omega
              case c5 => exact Nat.le_trans HB3.out.size (by simp)
              intro v3 w3 hown3 hg3 _ hat3
              have hb4 : Below w.heap.size w w3 := (HB3.out.alloc HB3.out.size _).grown hg3 (Nat.le_trans HB3.out.size (by simp)) hlt2
              have HO4 : Hid (w3.ownsRow w.heap.size 30 4 v3 (T ++ [t]).length ((T ++ [t]).flatMap tokL)) := Lib.hid (by rw [List.flatMap_append, List.length_append]; simpa using hown3)
              clear hown3 hg3 hat3 HO3 HB3
              go_wp2_with fail
              go_roundw
              case rel => exact ⟨f, T ++ [t], hf1, rfl, by rw [List.length_append]; simp; omega, HO4.out, hb4, HK.out⟩
              case measure => simp [intOf]; omega
        · have HSC : Hid (scanAt s.data.toList k s[k] = wordScan s.data.toList k) := Lib.hid (by unfold scanAt; rw [hcl, if_pos rfl])
          rw [hcl] at CL
          clear hcl CD
          refine CL.out.mono ?_
          rintro e w' ⟨rfl, rfl⟩
          clear CL
          go_wp2_with fail
          have hcon := word_scan_ref s k w1 (by omega) hs
          rcases hS : wordScan s.data.toList k with c | ⟨t, f⟩
          · rw [hS] at hcon
            have HC := Lib.hid hcon
            have HE := Lib.hid (HL.out _ (Lexes.err (by simpa using hlt) HNB.out (HSC.out.trans hS)))
            have hcne := scanAt_err (HSC.out.trans hS)
            have c1 : ((c : Int) != 0) = true := by rw [bne_iff_ne]; omega
            clear hcon hS
            refine HC.out.mono ?_
            rintro e w2 ⟨rfl, hb2⟩
            replace hb := hb.trans (hb2.mono hb.size)
            replace hk := hk.below hb2
            clear hb2 HC
            have cx0 := hk.c0
            have cx1 := hk.c1
            have cx2 := hk.c2
            have cx3 := hk.c3
            have f0 := hk.free 0
            have f1 := hk.free 1
            have f2 := hk.free 2
            have f3 := hk.free 3
            go_wp2_with fail
            go_ret3
            exact ⟨_, .inr ⟨by rw [size_list]; exact hs, HE.out⟩, rfl, (((hb.setCell hGw _).setCell hGw _).setCell hGw _).setCell hGw _⟩
          · rw [hS] at hcon
            have HC := Lib.hid hcon
            have hend := scanAt_end (by simpa using hlt) (HSC.out.trans hS)
            have HK := Lib.hid (fun r hr => HL.out r (Lexes.tok (by simpa using hlt) HNB.out (HSC.out.trans hS) hr))
            clear hcon hS
            refine HC.out.mono ?_
            rintro e w2 ⟨rfl, hb2⟩
            have ho2 := HO.out.kept (w' := w2) (row := none) ⟨hb2.os, hb2.tape, hb2.output, hb2.size, fun i hi _ => hb2.block i hi⟩ (by rcases u5.ownBlock with _ | g; exact .inl rfl; exact .inr (by simp))
            replace hb := hb.trans (hb2.mono hb.size)
            replace hk := hk.below hb2
            have hf1 : f ≤ s.size := by simpa using hend.2.1
            have hf2 : k < f := hend.1
            have ho3 := own_far (own_far (own_far (own_far ho2 hGo 0 (.int .i64 (t.kind : Int))) hGo 1 (.string ⟨t.text.toArray⟩)) hGo 2 (.int .i64 (t.int : Int))) hGo 3 (.int .i64 (t.at_ : Int))
            have hb3 := (((hb.setCell (p := ⟨G, 0, none⟩) hGw (.int .i64 (t.kind : Int))).setCell (p := ⟨G, 1, none⟩) hGw (.string ⟨t.text.toArray⟩)).setCell (p := ⟨G, 2, none⟩) hGw (.int .i64 (t.int : Int))).setCell (p := ⟨G, 3, none⟩) hGw (.int .i64 (t.at_ : Int))
            clear hend HC HO hb2 ho2
            have cx0 := hk.c0
            have cx1 := hk.c1
            have cx2 := hk.c2
            have cx3 := hk.c3
            have f0 := hk.free 0
            have f1 := hk.free 1
            have f2 := hk.free 2
            have f3 := hk.free 3
            unfold tokV strV
            have HO3 := Lib.hid ho3
            have HB3 := Lib.hid hb3
            clear ho3 hb3
            go_wp2_with (at_builtin; refine wpList_append_own_at _ rfl (.tmp 69) (.tmp 71) 22 rfl w.heap.size 30 i0 _ 4 40 Tryd.underlying22 hi0 hz0 hz1 hz2 rfl (by omega) u5 T.length (T.flatMap tokL) rfl (HO3.out.alloc _) ⟨w2.heap.size, 0, none⟩ 1 1 (tokL t) rfl rfl (cell_lit4' _ _ _ _ _ _ _ (by simp [World.setCell])) ?one ?c3 ?c4 ?c5 ?_)
            case one => exact tok_one t
            case c3 => unfold maxLen; omega
            case c4 => omega
            case c5 => exact Nat.le_trans HB3.out.size (by simp)
            intro v3 w3 hown3 hg3 _ hat3
            have hb4 : Below w.heap.size w w3 := (HB3.out.alloc HB3.out.size _).grown hg3 (Nat.le_trans HB3.out.size (by simp)) hlt2
            have HO4 : Hid (w3.ownsRow w.heap.size 30 4 v3 (T ++ [t]).length ((T ++ [t]).flatMap tokL)) := Lib.hid (by rw [List.flatMap_append, List.length_append]; simpa using hown3)
            clear hown3 hg3 hat3 HO3 HB3
            go_wp2_with fail
            go_roundw
            case rel => exact ⟨f, T ++ [t], hf1, rfl, by rw [List.length_append]; simp; omega, HO4.out, hb4, HK.out⟩
            case measure => simp [intOf]; omega
      · have HK := Lib.hid (fun r hr => HL.out r (Lexes.skip (by simpa using hlt) hbk hr))
        rw [hbk] at CB
        have HO := Lib.hid ho
        clear hbk HL ho
        go_wp2_with fail
        refine CB.out.mono ?_
        rintro e w' ⟨rfl, rfl⟩
        go_wp2_with fail
        go_roundw
        case rel => exact ⟨k + 1, T, by omega, by go_num, by omega, HO.out, hb, HK.out⟩
        case measure => simp [intOf]; omega
    · obtain rfl : k = s.size := by omega
      have HE := Lib.hid (HL.out _ (Lexes.fin (by simp)))
      have HO := Lib.hid ho
      clear HL ho
      go_wp2_with fail
      go_ret3
      exact ⟨_, .inr ⟨by rw [size_list]; exact hs, HE.out⟩, _, rfl, HO.out, hb⟩
theorem refTokens_call (s : ByteArray) (w : World) : Calls Tryd.prog 8 #[.string s] w (TokPost w s) := by
  rcases Nat.lt_or_ge 65536 s.size with h | h
  · exact refTokens_long s w h
  · exact refTokens_short s w h
end Go.Proofs.YtlbmamcchomecaaDoor
