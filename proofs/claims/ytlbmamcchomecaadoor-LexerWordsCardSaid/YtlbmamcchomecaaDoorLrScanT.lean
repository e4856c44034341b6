/-
  The reference's text.
-/
import Derived.Test.YtlbmamcchomecaaDoorLrScanN
namespace Go.Proofs.YtlbmamcchomecaaDoor
open Go.RowKit
set_option linter.unusedVariables false
set_option linter.unusedSimpArgs false

def TRel (w : World) (s : ByteArray) (a : Nat) (v i : Value) (wr : World) : Prop :=
  ∃ (k : Nat) (out : List UInt8), k ≤ s.size ∧ i = .int .i64 k ∧ wr.ownsRow (w.heap.size + 1) 5 1 v out.length (Lib.byteCells out) ∧ Tk wr w.heap.size (.int .i64 0) (.string ⟨#[]⟩) (.int .i64 0) (.int .i64 0) ∧
    Below w.heap.size w wr ∧ out.length ≤ k ∧ textGo a (s.data.toList.drop k) k out = textScan s.data.toList a
set_option maxRecDepth 100000 in
set_option maxHeartbeats 4000000 in
theorem text_scan_ref (s : ByteArray) (a : Nat) (w : World) (ha : a < s.size) (hs : s.size ≤ 65536) :
    Calls Tryd.prog 25 #[.string s, .int .i64 (a : Int)] w (RefPost w a (textScan s.data.toList a)) := by
  obtain ⟨i0, hi0, hz0, hz1, hz2⟩ := info_parts info_u8
  have hk := (Tk.new w (.int .i64 0) (.string ⟨#[]⟩) (.int .i64 0) (.int .i64 0)).below ((Below.refl _ _).alloc (Nat.le_refl _) (.cells #[] 5))
  have hbw : Below w.heap.size w ((w.alloc (.cells #[.int .i64 0, .string ⟨#[]⟩, .int .i64 0, .int .i64 0] 30)).alloc (.cells #[] 5)) := ((Below.refl _ _).alloc (Nat.le_refl _) _).alloc (by simp) _
  have hown := own_empty (w.alloc (.cells #[.int .i64 0, .string ⟨#[]⟩, .int .i64 0, .int .i64 0] 30)) 5 (w.heap.size + 1) (by simp)
  have hsz : (w.alloc (.cells #[.int .i64 0, .string ⟨#[]⟩, .int .i64 0, .int .i64 0] 30)).heap.size = w.heap.size + 1 := by simp
  rw [hsz] at hown
  clear hsz
  go_enter Tryd.func25, Tryd.ntmps25
  go_wp2_with fail
  generalize (w.alloc (.cells #[.int .i64 0, .string ⟨#[]⟩, .int .i64 0, .int .i64 0] 30)).alloc (.cells #[] 5) = w0 at hk hbw hown ⊢
  go_loopw [7, 8] (fun v i wr => TRel w s a v i wr) (fun _ i _ => s.size - (intOf i).toNat)
  case atStart => exact ⟨a + 1, [], by omega, by go_num, hown, hk, hbw, by simp, rfl⟩
  case round =>
    obtain ⟨k, out, hks, rfl, ho, hk', hb, hol, htg⟩ := hrel
    clear hk hbw hown
    have hk := hk'
    have HT := Lib.hid htg
    clear htg hk'
    obtain ⟨A, n, cp, rfl⟩ := own_slice ho
    obtain rfl := own_len ho
    have hlt2 : ∀ g, (Value.slice A out.length cp).ownBlock = some g → w.heap.size + 1 ≤ g := fun g e => (ho.lt g e).1
    have HO := Lib.hid ho
    clear ho
    by_cases hlt : k < s.size
    · have i0' : (0 : Int) ≤ (k : Int) := by omega
      have i1' : (k : Int) < (s.size : Int) := by omega
      have hb8 : s[k].toNat < 256 := s[k].toNat_lt
      by_cases hc : s[k].toNat = 39
      · have c1' : ((s[k].toNat : Int) == 39) = true := beq_iff_eq.2 (by omega)
        by_cases h1 : k + 1 < s.size
        · have e1 : ((k : Int) + 1 == (s.size : Int)) = false := beq_eq_false_iff_ne.2 (by omega)
          have e2 : (0 : Int) ≤ (k : Int) + 1 := by omega
          have e3 : (k : Int) + 1 < (s.size : Int) := by omega
          by_cases hn : s[k + 1].toNat = 39
          · have n1 : ((s[k + 1].toNat : Int) != 39) = false := by rw [hn]; rfl
            have HT2 : Hid (textGo a (s.data.toList.drop (k + 2)) (k + 2) (out ++ [s[k + 1]]) = textScan s.data.toList a) := Lib.hid (by rw [eq39 hn, ← eq39 hc]; exact (tg_two h1 hc hn).symm.trans HT.out)
            have n2 : (32 : Int) ≤ (s[k + 1].toNat : Int) := by omega
            have n3 : (s[k + 1].toNat : Int) ≤ 126 := by omega
            clear HT hc hn
            go_wp2_with (at_builtin; refine wpList_append_own_at _ rfl (.tmp 57) (.tmp 61) 52 rfl (w.heap.size + 1) 5 i0 _ 1 1 Tryd.underlying52 hi0 hz0 hz1 hz2 rfl (by omega) (.slice A out.length cp) out.length _ rfl (HO.out.alloc _) ⟨wr.heap.size, 0, none⟩ 1 1 [.int .u8 (s[k + 1].toNat : Int)] rfl rfl (cell_lit1 _ _ _) ?one ?c3 ?c4 ?c5 ?_)
            case one => intro u hu; obtain rfl := List.mem_singleton.1 hu; rfl
            case c3 => unfold maxLen; omega
            case c4 => omega
            case c5 => have := hk.lt; simp; omega
            intro v3 w3 hown3 hg3 _ hat3
            have hb3 : Below w.heap.size w w3 := (hb.alloc hb.size _).grown hg3 (Nat.le_trans hb.size (by simp)) (fun g e => by have := hlt2 g e; omega)
            have hk3 : Tk w3 w.heap.size (.int .i64 0) (.string ⟨#[]⟩) (.int .i64 0) (.int .i64 0) := (hg3.block _ (by have := hk.lt; simp; omega) (fun e => by have := hlt2 _ e.symm; omega)).trans ((Below.heap_alloc wr _ _ hk.lt).trans hk)
            have HO3 : Hid (w3.ownsRow (w.heap.size + 1) 5 1 v3 (out ++ [s[k + 1]]).length (Lib.byteCells (out ++ [s[k + 1]]))) := Lib.hid (by rw [byteCells_snoc, List.length_append]; exact hown3)
            clear hown3 hg3 hat3
            go_wp2_with fail
            go_roundw
            case rel => exact ⟨k + 2, out ++ [s[k + 1]], by omega, by go_num, HO3.out, hk3, hb3, by simp; omega, HT2.out⟩
            case measure => simp [intOf]; omega
          · have n1 : ((s[k + 1].toNat : Int) != 39) = true := by rw [bne_iff_ne]; omega
            have HT2 := Lib.hid ((tg_stop (by omega) hc (fun _ => hn)).symm.trans HT.out)
            clear HT hc hn
            by_cases h200 : 200 < out.length
            · have HF := Lib.hid (HT2.out.symm.trans (show textEnd a k out = .err 5 by unfold textEnd; rw [if_pos h200]))
              have l1 : (200 : Int) < (out.length : Int) := by omega
              clear HT2
              have c0 := hk.c0
              have c1 := hk.c1
              have c2 := hk.c2
              have c3 := hk.c3
              have f0 := hk.free 0
              have f1 := hk.free 1
              have f2 := hk.free 2
              have f3 := hk.free 3
              go_wp2_with fail
              have hk4 := hk.set4 (.int .i64 0) (.string ⟨#[]⟩) (.int .i64 0) (.int .i64 0)
              refine bodyPost_ret (results_ref Tryd.results25 _ rfl hk4) rfl ?_
              rw [HF.out]
              exact ⟨rfl, (((hb.setCell (Nat.le_refl _) _).setCell (Nat.le_refl _) _).setCell (Nat.le_refl _) _).setCell (Nat.le_refl _) _⟩
            · have HF := Lib.hid (HT2.out.symm.trans (show textEnd a k out = .tok ⟨4, out, 0, a⟩ (k + 1) by unfold textEnd; rw [if_neg h200]))
              have l1 : ¬ (200 : Int) < (out.length : Int) := by omega
              have hcv := own_bytes HO.out
              clear HT2
              have c0 := hk.c0
              have c1 := hk.c1
              have c2 := hk.c2
              have c3 := hk.c3
              have f0 := hk.free 0
              have f1 := hk.free 1
              have f2 := hk.free 2
              have f3 := hk.free 3
              go_wp2_with fail
              have hk4 := hk.set4 (.int .i64 4) (.string ⟨out.toArray⟩) (.int .i64 0) (.int .i64 a)
              refine bodyPost_ret (results_ref Tryd.results25 _ rfl hk4) rfl ?_
              rw [HF.out]
              exact ⟨rfl, (((hb.setCell (Nat.le_refl _) _).setCell (Nat.le_refl _) _).setCell (Nat.le_refl _) _).setCell (Nat.le_refl _) _⟩
        · have e1 : ((k : Int) + 1 == (s.size : Int)) = true := beq_iff_eq.2 (by omega)
          have HT2 := Lib.hid ((tg_stop (by omega) hc (fun h => absurd h h1)).symm.trans HT.out)
          clear HT hc
          by_cases h200 : 200 < out.length
          · have HF := Lib.hid (HT2.out.symm.trans (show textEnd a k out = .err 5 by unfold textEnd; rw [if_pos h200]))
            have l1 : (200 : Int) < (out.length : Int) := by omega
            clear HT2
            have c0 := hk.c0
            have c1 := hk.c1
            have c2 := hk.c2
            have c3 := hk.c3
            have f0 := hk.free 0
            have f1 := hk.free 1
            have f2 := hk.free 2
            have f3 := hk.free 3
            go_wp2_with fail
            have hk4 := hk.set4 (.int .i64 0) (.string ⟨#[]⟩) (.int .i64 0) (.int .i64 0)
            refine bodyPost_ret (results_ref Tryd.results25 _ rfl hk4) rfl ?_
            rw [HF.out]
            exact ⟨rfl, (((hb.setCell (Nat.le_refl _) _).setCell (Nat.le_refl _) _).setCell (Nat.le_refl _) _).setCell (Nat.le_refl _) _⟩
          · have HF := Lib.hid (HT2.out.symm.trans (show textEnd a k out = .tok ⟨4, out, 0, a⟩ (k + 1) by unfold textEnd; rw [if_neg h200]))
            have l1 : ¬ (200 : Int) < (out.length : Int) := by omega
            have hcv := own_bytes HO.out
            clear HT2
            have c0 := hk.c0
            have c1 := hk.c1
            have c2 := hk.c2
            have c3 := hk.c3
            have f0 := hk.free 0
            have f1 := hk.free 1
            have f2 := hk.free 2
            have f3 := hk.free 3
            go_wp2_with fail
            have hk4 := hk.set4 (.int .i64 4) (.string ⟨out.toArray⟩) (.int .i64 0) (.int .i64 a)
            refine bodyPost_ret (results_ref Tryd.results25 _ rfl hk4) rfl ?_
            rw [HF.out]
            exact ⟨rfl, (((hb.setCell (Nat.le_refl _) _).setCell (Nat.le_refl _) _).setCell (Nat.le_refl _) _).setCell (Nat.le_refl _) _⟩
      · have c1' : ((s[k].toNat : Int) == 39) = false := beq_eq_false_iff_ne.2 (by omega)
        rcases hbd : badB s[k].toNat with _ | _
        · have HT2 := Lib.hid ((tg_char hlt hc hbd).symm.trans HT.out)
          have n2 : (32 : Int) ≤ (s[k].toNat : Int) := by unfold badB at hbd; simp at hbd; omega
          have n3 : (s[k].toNat : Int) ≤ 126 := by unfold badB at hbd; simp at hbd; omega
          clear HT hc hbd
          go_wp2_with (at_builtin; refine wpList_append_own_at _ rfl (.tmp 57) (.tmp 61) 52 rfl (w.heap.size + 1) 5 i0 _ 1 1 Tryd.underlying52 hi0 hz0 hz1 hz2 rfl (by omega) (.slice A out.length cp) out.length _ rfl (HO.out.alloc _) ⟨wr.heap.size, 0, none⟩ 1 1 [.int .u8 (s[k].toNat : Int)] rfl rfl (cell_lit1 _ _ _) ?one ?c3 ?c4 ?c5 ?_)
          case one => intro u hu; obtain rfl := List.mem_singleton.1 hu; rfl
          case c3 => unfold maxLen; omega
          case c4 => omega
          case c5 => have := hk.lt; simp; omega
          intro v3 w3 hown3 hg3 _ hat3
          have hb3 : Below w.heap.size w w3 := (hb.alloc hb.size _).grown hg3 (Nat.le_trans hb.size (by simp)) (fun g e => by have := hlt2 g e; omega)
          have hk3 : Tk w3 w.heap.size (.int .i64 0) (.string ⟨#[]⟩) (.int .i64 0) (.int .i64 0) := (hg3.block _ (by have := hk.lt; simp; omega) (fun e => by have := hlt2 _ e.symm; omega)).trans ((Below.heap_alloc wr _ _ hk.lt).trans hk)
          have HO3 : Hid (w3.ownsRow (w.heap.size + 1) 5 1 v3 (out ++ [s[k]]).length (Lib.byteCells (out ++ [s[k]]))) := Lib.hid (by rw [byteCells_snoc, List.length_append]; exact hown3)
          clear hown3 hg3 hat3
          go_wp2_with fail
          go_roundw
          case rel => exact ⟨k + 1, out ++ [s[k]], by omega, by go_num, HO3.out, hk3, hb3, by simp; omega, HT2.out⟩
          case measure => simp [intOf]; omega
        · have HF := Lib.hid (HT.out.symm.trans (tg_bad hlt hc hbd))
          have cc : (s[k].toNat : Int) < 32 ∨ 126 < (s[k].toNat : Int) := by unfold badB at hbd; simp at hbd; omega
          clear HT hc hbd
          rcases cc with n2 | n2
          all_goals
            have c0 := hk.c0
            have c1 := hk.c1
            have c2 := hk.c2
            have c3 := hk.c3
            have f0 := hk.free 0
            have f1 := hk.free 1
            have f2 := hk.free 2
            have f3 := hk.free 3
            go_wp2_with fail
            have hk4 := hk.set4 (.int .i64 0) (.string ⟨#[]⟩) (.int .i64 0) (.int .i64 0)
            refine bodyPost_ret (results_ref Tryd.results25 _ rfl hk4) rfl ?_
            rw [HF.out]
            exact ⟨rfl, (((hb.setCell (Nat.le_refl _) _).setCell (Nat.le_refl _) _).setCell (Nat.le_refl _) _).setCell (Nat.le_refl _) _⟩
    · obtain rfl : k = s.size := by omega
      have HF := Lib.hid (HT.out.symm.trans (tg_end (Nat.le_refl _)))
      clear HT
      have c0 := hk.c0
      have c1 := hk.c1
      have c2 := hk.c2
      have c3 := hk.c3
      have f0 := hk.free 0
      have f1 := hk.free 1
      have f2 := hk.free 2
      have f3 := hk.free 3
      go_wp2_with fail
      have hk4 := hk.set4 (.int .i64 0) (.string ⟨#[]⟩) (.int .i64 0) (.int .i64 0)
      refine bodyPost_ret (results_ref Tryd.results25 _ rfl hk4) rfl ?_
      rw [HF.out]
      exact ⟨rfl, (((hb.setCell (Nat.le_refl _) _).setCell (Nat.le_refl _) _).setCell (Nat.le_refl _) _).setCell (Nat.le_refl _) _⟩
end Go.Proofs.YtlbmamcchomecaaDoor
