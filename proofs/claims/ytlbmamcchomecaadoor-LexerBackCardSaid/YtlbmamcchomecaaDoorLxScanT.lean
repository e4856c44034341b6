/-
  The scanner's text.
-/
import Derived.Test.YtlbmamcchomecaaDoorLxScanS
namespace Go.Proofs.YtlbmamcchomecaaDoor
open Go.RowKit
set_option linter.unusedVariables false
set_option linter.unusedSimpArgs false

section
variable {T e : TypeId} {B b : Nat} {bs : List Value} {w w' : World}
theorem build_keep (h : Lib.IsBuilder T e B b bs w) (hk : ∀ i, B ≤ i → w'.heap[i]? = w.heap[i]?) : Lib.IsBuilder T e B b bs w' := by
  have one : ∀ p, Lib.BuilderAt T e B b p bs w → Lib.BuilderAt T e B b p bs w' := by
    rintro p ⟨hB, v, hb, hown, hne⟩
    refine ⟨hB, v, (hk b hB).trans hb, ⟨hown.1, ?_⟩, hne⟩
    rcases hown.2 with h0 | ⟨g, cap, cur, hv, hg, hh, r⟩
    · exact .inl h0
    · exact .inr ⟨g, cap, cur, hv, hg, (hk g hg).trans hh, r⟩
  rcases h with h | h
  · exact .inl (one _ h)
  · exact .inr (one _ h)
theorem build_drewN (h : Lib.IsBuilder T e B b bs w) (n : Nat) : Lib.IsBuilder T e B b bs (w.drewN n) := build_keep h fun _ _ => rfl
theorem build_far (h : Lib.IsBuilder T e B b bs w) {p : Addr} (hp : p.block < B) (u : Value) : Lib.IsBuilder T e B b bs (w.setCell p u) :=
  build_keep h fun i hi => Below.heap_setCell w p u i (by rintro rfl; omega)
end
theorem grown_belowB {a w w' : World} {B : Nat} {row : Option Nat} (h : a.grownBy w row) (hb : Below B w w') (hB : a.heap.size ≤ B) : a.grownBy w' row :=
  ⟨hb.os.trans h.os, hb.tape.trans h.tape, hb.output.trans h.output, Nat.le_trans h.size hb.size, fun i hi hne => (hb.block i (by omega)).trans (h.block i hi hne)⟩
theorem byteCells_snoc (l : List UInt8) (c : UInt8) : Lib.byteCells (l ++ [c]) = Lib.byteCells l ++ [.int .u8 (c.toNat : Int)] := by simp [Lib.byteCells]
section
variable {s : ByteArray} {k a : Nat} {out : List UInt8}
theorem drop_at (h : k < s.size) : s.data.toList.drop k = s[k] :: s.data.toList.drop (k + 1) := by
  rw [List.drop_eq_getElem_cons (by simpa using h)]; rfl
theorem tg_cons (a : Nat) (c : UInt8) (r : List UInt8) (i : Nat) (out : List UInt8) : textGo a (c :: r) i out = if c = 39 then (match r with | [] => textEnd a i out | d :: r' => if d = 39 then textGo a r' (i + 2) (out ++ [39]) else textEnd a i out) else if badB c.toNat then .err 1 else textGo a r (i + 1) (out ++ [c]) := textGo.eq_def ..
theorem tg_end (h : s.size ≤ k) : textGo a (s.data.toList.drop k) k out = .err 2 := by
  rw [List.drop_eq_nil_of_le (by simpa using h)]; rfl
theorem ne39 {c : UInt8} (h : c.toNat ≠ 39) : ¬ c = 39 := fun e => h (by rw [e]; rfl)
theorem tg_bad (h : k < s.size) (hc : s[k].toNat ≠ 39) (hb : badB s[k].toNat = true) : textGo a (s.data.toList.drop k) k out = .err 1 := by
  rw [drop_at h, tg_cons, if_neg (ne39 hc), if_pos hb]
theorem tg_char (h : k < s.size) (hc : s[k].toNat ≠ 39) (hb : badB s[k].toNat = false) : textGo a (s.data.toList.drop k) k out = textGo a (s.data.toList.drop (k + 1)) (k + 1) (out ++ [s[k]]) := by
  rw [drop_at h, tg_cons, if_neg (ne39 hc), if_neg (by rw [hb]; decide)]
theorem eq39 {c : UInt8} (h : c.toNat = 39) : c = 39 := UInt8.toNat_inj.1 h
theorem tg_stop (h : k < s.size) (hc : s[k].toNat = 39) (hn : ∀ h1 : k + 1 < s.size, s[k + 1].toNat ≠ 39) : textGo a (s.data.toList.drop k) k out = textEnd a k out := by
  rw [drop_at h, tg_cons, if_pos (eq39 hc)]
  by_cases h1 : k + 1 < s.size
  · rw [drop_at h1]
    simp only
    rw [if_neg (ne39 (hn h1))]
  · rw [List.drop_eq_nil_of_le (by simpa using h1)]
theorem tg_two (h1 : k + 1 < s.size) (hc : s[k].toNat = 39) (hn : s[k + 1].toNat = 39) : textGo a (s.data.toList.drop k) k out = textGo a (s.data.toList.drop (k + 2)) (k + 2) (out ++ [s[k]]) := by
  rw [drop_at (show k < s.size by omega), tg_cons, if_pos (eq39 hc), drop_at h1]
  simp only
  rw [if_pos (eq39 hn), eq39 hc]
end
theorem len_call (B : Nat) (out : List UInt8) {w : World} (h : Lib.IsBuilder 60 5 B B (Lib.byteCells out) w) :
    Calls Tryd.prog 59 #[.pointer (some ⟨B, 0, none⟩)] w fun e w' => e = .returned (.int .i64 (out.length : Int)) ∧ w = w' :=
  (Tryd.Builder_Len B B _ w h).mono fun _ _ hh => ⟨by rw [hh.1, Lib.byteCells_length], hh.2.symm⟩
def TextRel (w : World) (a b : Nat) (s : ByteArray) (gk : Nat) (wr : World) : Prop :=
  ∃ (k : Nat) (out : List UInt8), k + gk = s.size ∧ out.length ≤ k ∧ Sc wr b s k ∧ Tk wr w.heap.size (.int .i64 0) (.string ⟨#[]⟩) (.int .i64 0) (.int .i64 0) ∧
    Lib.IsBuilder 60 5 (w.heap.size + 1) (w.heap.size + 1) (Lib.byteCells out) wr ∧ w.grownBy wr (some b) ∧ textGo a (s.data.toList.drop k) k out = textScan s.data.toList a
set_option maxHeartbeats 4000000 in
set_option maxRecDepth 100000 in
theorem scan_text (b : Nat) (s : ByteArray) (a : Nat) (w : World) (h : Sc w b s a) (ha : a < s.size) (hs : s.size ≤ 65536) :
    Calls Tryd.prog 42 #[.pointer (some ⟨b, 0, none⟩)] w (ScanPost w b s a (textScan s.data.toList a)) := by
  have hbl := h.lt
  have hne : w.heap.size ≠ b := by omega
  have h1 := h.alloc (.cells #[.int .i64 0, .string ⟨#[]⟩, .int .i64 0, .int .i64 0] 30)
  have h2 := h1.alloc (.cells #[.pointer none, .slice none 0 0] 60)
  have q1 := h1.at_
  have q2 := h2.at_
  have q3 := h2.free 1
  have hA := ((h.set (a + 1)).alloc (.cells #[.int .i64 0, .string ⟨#[]⟩, .int .i64 0, .int .i64 0] 30)).alloc (.cells #[.pointer none, .slice none 0 0] 60)
  have hsz : (w.setCell ⟨b, 1, none⟩ (.int .i64 ((a + 1 : Nat) : Int))).heap.size = w.heap.size := by simp [World.setCell]
  have hK := (Tk.new (w.setCell ⟨b, 1, none⟩ (.int .i64 ((a + 1 : Nat) : Int))) (.int .i64 0) (.string ⟨#[]⟩) (.int .i64 0) (.int .i64 0)).below ((Below.refl _ _).alloc (Nat.le_refl _) (.cells #[.pointer none, .slice none 0 0] 60))
  rw [hsz] at hK
  have hG : w.grownBy (((w.setCell ⟨b, 1, none⟩ (.int .i64 ((a + 1 : Nat) : Int))).alloc (.cells #[.int .i64 0, .string ⟨#[]⟩, .int .i64 0, .int .i64 0] 30)).alloc (.cells #[.pointer none, .slice none 0 0] 60)) (some b) := grown_trans (grown_trans (only_setCell (World.grownBy.refl w _) 1 _) (World.grownBy_alloc _ _ _)) (World.grownBy_alloc _ _ _)
  have hBd := Lib.fresh_isBuilder 60 5 ((w.setCell ⟨b, 1, none⟩ (.int .i64 ((a + 1 : Nat) : Int))).alloc (.cells #[.int .i64 0, .string ⟨#[]⟩, .int .i64 0, .int .i64 0] 30))
  have hsz2 : ((w.setCell ⟨b, 1, none⟩ (.int .i64 ((a + 1 : Nat) : Int))).alloc (.cells #[.int .i64 0, .string ⟨#[]⟩, .int .i64 0, .int .i64 0] 30)).heap.size = w.heap.size + 1 := by simp [World.setCell]
  rw [hsz2] at hBd
  clear hsz hsz2
  have hc1 : ((a + 1 : Nat) : Int) = (a : Int) + 1 := by omega
  rw [hc1] at hA hK hG hBd
  clear hc1
  have HBD := Lib.hid hBd
  clear hBd h h1 h2
  go_enter Tryd.func42, Tryd.ntmps42
  go_wp2_with fail
  clear q1 q2 q3
  generalize ((w.setCell ⟨b, 1, none⟩ (.int .i64 ((a : Int) + 1))).alloc (.cells #[.int .i64 0, .string ⟨#[]⟩, .int .i64 0, .int .i64 0] 30)).alloc (.cells #[.pointer none, .slice none 0 0] 60) = w0 at hA hK hG HBD ⊢
  go_loopg [] (s.size - (a + 1)) (fun gk wr => TextRel w a b s gk wr)
  case atStart => exact ⟨a + 1, [], by omega, by simp, hA, hK, HBD.out, hG, rfl⟩
  case round =>
    obtain ⟨k, out, hkg, hol, hsc, hk, hbd, hg, htg⟩ := hrel
    have HT := Lib.hid htg
    have HB := Lib.hid hbd
    clear htg hbd hA hK hG HBD
    have t0 := hsc.text
    have t1 := hsc.at_
    by_cases hlt : k < s.size
    · have d1 : decide ((s.size : Int) ≤ (k : Int)) = false := decide_eq_false (by omega)
      have i0 : (0 : Int) ≤ (k : Int) := by omega
      have i1 : (k : Int) < (s.size : Int) := by omega
      have hb8 : s[k].toNat < 256 := s[k].toNat_lt
      go_wp2_with fail
      go_quiet (fail)
      replace hk := hk.drewN nq
      replace hsc := hsc.drewN nq
      replace hg := only_drewN hg nq
      replace HB := Lib.hid (build_drewN HB.out nq)
      replace t0 := hsc.text
      replace t1 := hsc.at_
      generalize wr.drewN nq = w1 at hk hsc hg HB t0 t1 ⊢
      go_wp2_with fail
      go_quiet (fail)
      replace hk := hk.drewN nq
      replace hsc := hsc.drewN nq
      replace hg := only_drewN hg nq
      replace HB := Lib.hid (build_drewN HB.out nq)
      replace t0 := hsc.text
      replace t1 := hsc.at_
      generalize w1.drewN nq = w2 at hk hsc hg HB t0 t1 ⊢
      have ff := hsc.free 1
      by_cases hc : s[k].toNat = 39
      · have c1 : ((s[k].toNat : Int) == 39) = true := beq_iff_eq.2 (by omega)
        have c2 : (32 : Int) ≤ (s[k].toNat : Int) := by omega
        have c3 : (s[k].toNat : Int) ≤ 126 := by omega
        by_cases h1 : k + 1 < s.size
        · have e1 : decide ((s.size : Int) ≤ (k : Int) + 1) = false := decide_eq_false (by omega)
          have e2 : (0 : Int) ≤ (k : Int) + 1 := by omega
          have e3 : (k : Int) + 1 < (s.size : Int) := by omega
          have e4 : ((k : Int) + 1).toNat = k + 1 := by omega
          by_cases hn : s[k + 1].toNat = 39
          · have n1 : ((s[k + 1].toNat : Int) != 39) = false := by rw [hn]; rfl
            have HT2 := Lib.hid ((tg_two h1 hc hn).symm.trans HT.out)
            clear HT hc hn
            go_wp2_with fail
            have hk' : Tk (w2.setCell ⟨b, 1, none⟩ (.int .i64 ((k : Int) + 1))) w.heap.size (.int .i64 0) (.string ⟨#[]⟩) (.int .i64 0) (.int .i64 0) := hk.far hne _ _
            have hsc' : Sc (w2.setCell ⟨b, 1, none⟩ (.int .i64 ((k : Int) + 1))) b s (k + 1) := hsc.set (k + 1)
            have hg' : w.grownBy (w2.setCell ⟨b, 1, none⟩ (.int .i64 ((k : Int) + 1))) (some b) := only_setCell hg 1 _
            have HB' := Lib.hid (build_far HB.out (p := ⟨b, 1, none⟩) (by show b < _; omega) (.int .i64 ((k : Int) + 1)))
            generalize w2.setCell ⟨b, 1, none⟩ (.int .i64 ((k : Int) + 1)) = w3 at hk' hsc' hg' HB' ⊢
            clear hk hsc hg HB t0 t1 ff
            have hk := hk'
            have hsc := hsc'
            have hg := hg'
            have HB := HB'
            clear hk' hsc' hg' HB'
            have t0 := hsc.text
            have t1 := hsc.at_
            go_quiet (fail)
            replace hk := hk.drewN nq
            replace hsc := hsc.drewN nq
            replace hg := only_drewN hg nq
            replace HB := Lib.hid (build_drewN HB.out nq)
            replace t0 := hsc.text
            replace t1 := hsc.at_
            generalize w3.drewN nq = w4 at hk hsc hg HB t0 t1 ⊢
            go_wp2_with fail
            refine (Tryd.Builder_WriteByte (w.heap.size + 1) (w.heap.size + 1) _ (s[k].toNat : Int) _ HB.out (by rw [Lib.byteCells_length]; omega) (by have := hk.lt; omega)).mono ?_
            rintro e w5 ⟨rfl, hbb, hbl2⟩
            replace hk := (hbl2.block _ (by omega)).trans hk
            replace hsc := (hbl2.block _ (by omega)).trans hsc
            replace hg := grown_belowB hg hbl2 (by omega)
            change Tk w5 w.heap.size (.int .i64 0) (.string ⟨#[]⟩) (.int .i64 0) (.int .i64 0) at hk
            change Sc w5 b s _ at hsc
            replace HB : Hid (Lib.IsBuilder 60 5 (w.heap.size + 1) (w.heap.size + 1) (Lib.byteCells (out ++ [s[k]])) w5) := Lib.hid (Or.inr (by rw [byteCells_snoc]; exact hbb))
            clear hbb hbl2
            replace t0 := hsc.text
            replace t1 := hsc.at_
            have ff := hsc.free 1
            go_wp2_with fail
            go_roundg (gk - 2)
            case measure => omega
            case rel =>
              have hsc9 := hsc.set (k + 2)
              have hg9 := only_setCell hg 1 (.int .i64 ((k + 2 : Nat) : Int))
              have hk9 := hk.far hne 1 (.int .i64 ((k + 2 : Nat) : Int))
              have hb9 := build_far HB.out (p := ⟨b, 1, none⟩) (by show b < _; omega) (.int .i64 ((k + 2 : Nat) : Int))
              have e9 : ((k + 2 : Nat) : Int) = (k : Int) + 1 + 1 := by omega
              rw [e9] at hsc9 hg9 hk9 hb9
              exact ⟨k + 2, out ++ [s[k]], by omega, by rw [List.length_append]; simp; omega, hsc9, hk9, hb9, hg9, HT2.out⟩
          · have n1 : ((s[k + 1].toNat : Int) != 39) = true := by rw [bne_iff_ne]; omega
            have HT2 := Lib.hid ((tg_stop (by omega) hc (fun _ => hn)).symm.trans HT.out)
            clear HT hc hn
            go_wp2_with fail
            have hk' : Tk (w2.setCell ⟨b, 1, none⟩ (.int .i64 ((k : Int) + 1))) w.heap.size (.int .i64 0) (.string ⟨#[]⟩) (.int .i64 0) (.int .i64 0) := hk.far hne _ _
            have hsc' : Sc (w2.setCell ⟨b, 1, none⟩ (.int .i64 ((k : Int) + 1))) b s (k + 1) := hsc.set (k + 1)
            have hg' : w.grownBy (w2.setCell ⟨b, 1, none⟩ (.int .i64 ((k : Int) + 1))) (some b) := only_setCell hg 1 _
            have HB' := Lib.hid (build_far HB.out (p := ⟨b, 1, none⟩) (by show b < _; omega) (.int .i64 ((k : Int) + 1)))
            generalize w2.setCell ⟨b, 1, none⟩ (.int .i64 ((k : Int) + 1)) = w3 at hk' hsc' hg' HB' ⊢
            clear hk hsc hg HB t0 t1 ff
            have hk := hk'
            have hsc := hsc'
            have hg := hg'
            have HB := HB'
            clear hk' hsc' hg' HB'
            have t0 := hsc.text
            have t1 := hsc.at_
            go_quiet (fail)
            replace hk := hk.drewN nq
            replace hsc := hsc.drewN nq
            replace hg := only_drewN hg nq
            replace HB := Lib.hid (build_drewN HB.out nq)
            replace t0 := hsc.text
            replace t1 := hsc.at_
            generalize w3.drewN nq = w4 at hk hsc hg HB t0 t1 ⊢
            go_wp2_with fail
            refine (len_call _ _ HB.out).mono ?_
            rintro e w' ⟨rfl, rfl⟩
            by_cases h200 : 200 < out.length
            · have HF := Lib.hid (HT2.out.symm.trans (show textEnd a k out = .err 5 by unfold textEnd; rw [if_pos h200]))
              have l1 : (200 : Int) < (out.length : Int) := by omega
              clear HT2
              go_wp2_with fail
              refine ⟨rfl, ?_⟩
              rw [HF.out]
              exact ⟨rfl, hg⟩
            · have HF := Lib.hid (HT2.out.symm.trans (show textEnd a k out = .tok ⟨4, out, 0, a⟩ (k + 1) by unfold textEnd; rw [if_neg h200]))
              have l1 : ¬ (200 : Int) < (out.length : Int) := by omega
              clear HT2
              go_wp2_with fail
              refine (Tryd.Builder_String_any (w.heap.size + 1) (w.heap.size + 1) out _ HB.out (by have := hk.lt; omega)).mono ?_
              rintro e w5 ⟨rfl, hbl2⟩
              replace hk := (hbl2.block _ (by omega)).trans hk
              replace hsc := (hbl2.block _ (by omega)).trans hsc
              replace hg := grown_belowB hg hbl2 (by omega)
              clear hbl2 HB t0 t1
              change Tk w5 w.heap.size (.int .i64 0) (.string ⟨#[]⟩) (.int .i64 0) (.int .i64 0) at hk
              change Sc w5 b s (k + 1) at hsc
              have c0 := hk.c0
              have c1 := hk.c1
              have c2 := hk.c2
              have c3 := hk.c3
              have f0 := hk.free 0
              have f1 := hk.free 1
              have f2 := hk.free 2
              have f3 := hk.free 3
              go_wp2_with fail
              have hk4 := hk.set4 (.int .i64 4) (.string ⟨out.toArray⟩) (.int .i64 0) (.int .i64 a)
              refine bodyPost_ret (results_tok Tryd.results42 _ rfl hk4) rfl ?_
              rw [HF.out]
              exact ⟨rfl, (((hsc.far (Ne.symm hne) _ _).far (Ne.symm hne) _ _).far (Ne.symm hne) _ _).far (Ne.symm hne) _ _, only_new (only_new (only_new (only_new hg (Nat.le_refl _) _ _) (Nat.le_refl _) _ _) (Nat.le_refl _) _ _) (Nat.le_refl _) _ _⟩
        · have e1 : decide ((s.size : Int) ≤ (k : Int) + 1) = true := decide_eq_true (by omega)
          have HT2 := Lib.hid ((tg_stop (by omega) hc (fun h => absurd h h1)).symm.trans HT.out)
          clear HT hc
          go_wp2_with fail
          have hk' : Tk (w2.setCell ⟨b, 1, none⟩ (.int .i64 ((k : Int) + 1))) w.heap.size (.int .i64 0) (.string ⟨#[]⟩) (.int .i64 0) (.int .i64 0) := hk.far hne _ _
          have hsc' : Sc (w2.setCell ⟨b, 1, none⟩ (.int .i64 ((k : Int) + 1))) b s (k + 1) := hsc.set (k + 1)
          have hg' : w.grownBy (w2.setCell ⟨b, 1, none⟩ (.int .i64 ((k : Int) + 1))) (some b) := only_setCell hg 1 _
          have HB' := Lib.hid (build_far HB.out (p := ⟨b, 1, none⟩) (by show b < _; omega) (.int .i64 ((k : Int) + 1)))
          generalize w2.setCell ⟨b, 1, none⟩ (.int .i64 ((k : Int) + 1)) = w3 at hk' hsc' hg' HB' ⊢
          clear hk hsc hg HB t0 t1 ff
          have hk := hk'
          have hsc := hsc'
          have hg := hg'
          have HB := HB'
          clear hk' hsc' hg' HB'
          have t0 := hsc.text
          have t1 := hsc.at_
          go_quiet (fail)
          replace hk := hk.drewN nq
          replace hsc := hsc.drewN nq
          replace hg := only_drewN hg nq
          replace HB := Lib.hid (build_drewN HB.out nq)
          replace t0 := hsc.text
          replace t1 := hsc.at_
          generalize w3.drewN nq = w4 at hk hsc hg HB t0 t1 ⊢
          go_wp2_with fail
          refine (len_call _ _ HB.out).mono ?_
          rintro e w' ⟨rfl, rfl⟩
          by_cases h200 : 200 < out.length
          · have HF := Lib.hid (HT2.out.symm.trans (show textEnd a k out = .err 5 by unfold textEnd; rw [if_pos h200]))
            have l1 : (200 : Int) < (out.length : Int) := by omega
            clear HT2
            go_wp2_with fail
            refine ⟨rfl, ?_⟩
            rw [HF.out]
            exact ⟨rfl, hg⟩
          · have HF := Lib.hid (HT2.out.symm.trans (show textEnd a k out = .tok ⟨4, out, 0, a⟩ (k + 1) by unfold textEnd; rw [if_neg h200]))
            have l1 : ¬ (200 : Int) < (out.length : Int) := by omega
            clear HT2
            go_wp2_with fail
            refine (Tryd.Builder_String_any (w.heap.size + 1) (w.heap.size + 1) out _ HB.out (by have := hk.lt; omega)).mono ?_
            rintro e w5 ⟨rfl, hbl2⟩
            replace hk := (hbl2.block _ (by omega)).trans hk
            replace hsc := (hbl2.block _ (by omega)).trans hsc
            replace hg := grown_belowB hg hbl2 (by omega)
            clear hbl2 HB t0 t1
            change Tk w5 w.heap.size (.int .i64 0) (.string ⟨#[]⟩) (.int .i64 0) (.int .i64 0) at hk
            change Sc w5 b s (k + 1) at hsc
            have c0 := hk.c0
            have c1 := hk.c1
            have c2 := hk.c2
            have c3 := hk.c3
            have f0 := hk.free 0
            have f1 := hk.free 1
            have f2 := hk.free 2
            have f3 := hk.free 3
            go_wp2_with fail
            have hk4 := hk.set4 (.int .i64 4) (.string ⟨out.toArray⟩) (.int .i64 0) (.int .i64 a)
            refine bodyPost_ret (results_tok Tryd.results42 _ rfl hk4) rfl ?_
            rw [HF.out]
            exact ⟨rfl, (((hsc.far (Ne.symm hne) _ _).far (Ne.symm hne) _ _).far (Ne.symm hne) _ _).far (Ne.symm hne) _ _, only_new (only_new (only_new (only_new hg (Nat.le_refl _) _ _) (Nat.le_refl _) _ _) (Nat.le_refl _) _ _) (Nat.le_refl _) _ _⟩
      · have c1 : ((s[k].toNat : Int) == 39) = false := beq_eq_false_iff_ne.2 (by omega)
        rcases hb : badB s[k].toNat with _ | _
        · have HT2 := Lib.hid ((tg_char hlt hc hb).symm.trans HT.out)
          have c2 : (32 : Int) ≤ (s[k].toNat : Int) := by unfold badB at hb; simp at hb; omega
          have c3 : (s[k].toNat : Int) ≤ 126 := by unfold badB at hb; simp at hb; omega
          clear HT hc hb
          go_wp2_with fail
          refine (Tryd.Builder_WriteByte (w.heap.size + 1) (w.heap.size + 1) _ (s[k].toNat : Int) _ HB.out (by rw [Lib.byteCells_length]; omega) (by have := hk.lt; omega)).mono ?_
          rintro e w3 ⟨rfl, hbb, hbl2⟩
          replace hk := (hbl2.block _ (by omega)).trans hk
          replace hsc := (hbl2.block _ (by omega)).trans hsc
          replace hg := grown_belowB hg hbl2 (by omega)
          change Tk w3 w.heap.size (.int .i64 0) (.string ⟨#[]⟩) (.int .i64 0) (.int .i64 0) at hk
          change Sc w3 b s _ at hsc
          replace HB : Hid (Lib.IsBuilder 60 5 (w.heap.size + 1) (w.heap.size + 1) (Lib.byteCells (out ++ [s[k]])) w3) := Lib.hid (Or.inr (by rw [byteCells_snoc]; exact hbb))
          clear hbb hbl2
          replace t0 := hsc.text
          replace t1 := hsc.at_
          have ff := hsc.free 1
          go_wp2_with fail
          go_roundg (gk - 1)
          case measure => omega
          case rel =>
            have hsc9 := hsc.set (k + 1)
            have hg9 := only_setCell hg 1 (.int .i64 ((k + 1 : Nat) : Int))
            have hk9 := hk.far hne 1 (.int .i64 ((k + 1 : Nat) : Int))
            have hb9 := build_far HB.out (p := ⟨b, 1, none⟩) (by show b < _; omega) (.int .i64 ((k + 1 : Nat) : Int))
            have e9 : ((k + 1 : Nat) : Int) = (k : Int) + 1 := by omega
            rw [e9] at hsc9 hg9 hk9 hb9
            exact ⟨k + 1, out ++ [s[k]], by omega, by rw [List.length_append]; simp; omega, hsc9, hk9, hb9, hg9, HT2.out⟩
        · have HT2 := Lib.hid ((tg_bad hlt hc hb).symm.trans HT.out)
          have cc : (s[k].toNat : Int) < 32 ∨ 126 < (s[k].toNat : Int) := by unfold badB at hb; simp at hb; omega
          clear HT hc hb
          rcases cc with c2 | c2
          all_goals
            go_wp2_with fail
            refine ⟨rfl, ?_⟩
            rw [← HT2.out]
            exact ⟨rfl, hg⟩
    · obtain rfl : k = s.size := by omega
      have d1 : decide ((s.size : Int) ≤ (s.size : Int)) = true := by simp
      have HT2 := Lib.hid ((tg_end (Nat.le_refl _)).symm.trans HT.out)
      clear HT
      go_wp2_with fail
      go_quiet (fail)
      go_wp2_with fail
      refine ⟨rfl, ?_⟩
      rw [← HT2.out]
      exact ⟨rfl, only_drewN hg _⟩
end Go.Proofs.YtlbmamcchomecaaDoor
