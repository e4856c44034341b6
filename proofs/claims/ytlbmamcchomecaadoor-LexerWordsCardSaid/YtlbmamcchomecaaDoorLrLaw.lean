/-
  The reference's Same at equal lists, and the walk of bitemporallaw17.LexerTokens.
-/
import Derived.Test.YtlbmamcchomecaaDoorLrTokens
namespace Go.Proofs.YtlbmamcchomecaaDoor
open Go.RowKit
set_option linter.unusedVariables false
set_option linter.unusedSimpArgs false

structure Two (w : World) (B B' : Nat) (A A' : Option Addr) (c c' : Nat) (T : List Tok) (wr : World) : Prop where
  a : wr.ownsRow B 30 4 (.slice A T.length c) T.length (T.flatMap tokL)
  b : wr.ownsRow B' 30 4 (.slice A' T.length c') T.length (T.flatMap tokL)
  bel : Below w.heap.size w wr
def SmRel (w : World) (B B' : Nat) (A A' : Option Addr) (c c' : Nat) (T : List Tok) (i : Value) (wr : World) : Prop := ∃ k : Nat, k ≤ T.length ∧ i = .int .i64 k ∧ Two w B B' A A' c c' T wr
set_option maxRecDepth 100000 in
set_option maxHeartbeats 2000000 in
theorem same_ref (B B' : Nat) (A A' : Option Addr) (c c' : Nat) (T : List Tok) (w : World) (hn : T.length ≤ 65536) (h : Two w B B' A A' c c' T w) :
    Calls Tryd.prog 9 #[.slice A T.length c, .slice A' T.length c'] w (TruePost w) := by
  have H := Lib.hid h
  clear h
  have d0 : ((T.length : Int) != (T.length : Int)) = false := by simp
  go_enter Tryd.func9, Tryd.ntmps9
  go_wp2_with fail
  go_loopw [5] (fun i wr => SmRel w B B' A A' c c' T i wr) (fun i _ => T.length - (intOf i).toNat)
  case atStart => exact ⟨0, Nat.zero_le _, rfl, H.out⟩
  case round =>
    obtain ⟨k, hk, rfl, hI⟩ := hrel
    have HI := Lib.hid hI
    clear hI H
    by_cases hlt : k < T.length
    · obtain ⟨g, rfl⟩ := own_addr HI.out.a (by omega)
      obtain ⟨g', rfl⟩ := own_addr HI.out.b (by omega)
      obtain ⟨x0, x1, x2, x3⟩ := tok_cells HI.out.a (g := g) rfl hlt
      obtain ⟨y0, y1, y2, y3⟩ := tok_cells HI.out.b (g := g') rfl hlt
      have k0 : (0 : Int) ≤ (k : Int) := by omega
      have k1 : (k : Int) < (T.length : Int) := by omega
      generalize T[k] = t at x0 x1 x2 x3 y0 y1 y2 y3
      go_wp2_with fail
      go_quiet (fail)
      have HI2 : Hid (Two w B B' (some ⟨g, 0, none⟩) (some ⟨g', 0, none⟩) c c' T (wr.drewN nq)) := Lib.hid ⟨HI.out.a, HI.out.b, below_drewN HI.out.bel nq⟩
      clear x0 x1 x2 x3 y0 y1 y2 y3 HI
      generalize wr.drewN nq = w2 at HI2 ⊢
      go_wp2_with fail
      go_roundw
      case rel => exact ⟨k + 1, by omega, by go_num, HI2.out⟩
      case measure => simp [intOf]; omega
    · have HB := Lib.hid HI.out.bel
      clear HI
      go_wp2_with fail
      go_ret
      exact ⟨rfl, HB.out⟩
theorem same_from {w w2 : World} {B B' : Nat} {v v' : Value} {T : List Tok} (hn : T.length ≤ 65536) (hb : Below w.heap.size w w2) (ha : w2.ownsRow B 30 4 v T.length (T.flatMap tokL)) (hb' : w2.ownsRow B' 30 4 v' T.length (T.flatMap tokL)) :
    Calls Tryd.prog 9 #[v, v'] w2 (TruePost w) := by
  obtain ⟨A, n, c, rfl⟩ := own_slice ha
  obtain rfl := own_len ha
  obtain ⟨A', n', c', rfl⟩ := own_slice hb'
  obtain rfl := own_len hb'
  exact (same_ref B B' A A' c c' T w2 hn ⟨ha, hb', Below.refl _ _⟩).mono fun _ _ h => ⟨h.1, hb.trans (h.2.mono hb.size)⟩
set_option maxRecDepth 100000 in
set_option maxHeartbeats 2000000 in
theorem tokens_walk (s : ByteArray) (w : World) (ht : Tab w) : Calls Tryd.prog 3 #[.string s] w (TruePost w) := by
  have HT := Lib.hid ht
  clear ht
  go_enter Tryd.func3, Tryd.ntmps3
  go_wp2_with fail
  refine (tokens_call s w HT.out).mono ?_
  rintro e w1 ⟨r, hcm, hout⟩
  rcases r with ⟨i, c⟩ | T
  · obtain ⟨rfl, hb1⟩ := hout
    have HR := Lib.hid ((refTokens_call s w1).mono (R' := fun e w' => TokOut w1 e w' (.err i c)) fun e w' ⟨r', h1, h2⟩ => by rw [hcm.det h1]; exact h2)
    have d1 : ((i : Int) == (i : Int)) = true := by simp
    have d2 : ((c : Int) == (c : Int)) = true := by simp
    clear hcm
    go_wp2_with fail
    refine HR.out.mono ?_
    rintro e w2 ⟨rfl, hb2⟩
    have hbb := hb1.trans (hb2.mono hb1.size)
    have HS := Lib.hid (same_from (T := []) (by simp) hbb (World.ownsRow_nil w2 0 _ _) (World.ownsRow_nil w2 0 _ _))
    clear hb1 hb2 hbb HR
    go_wp2_with fail
    refine HS.out.mono ?_
    rintro e w3 ⟨rfl, hb3⟩
    have HA := Lib.hid (awake_from hb3 (HT.out.below hb3))
    clear HT hb3 HS
    go_wp2_with fail
    refine HA.out.mono ?_
    rintro e w4 ⟨rfl, hb4⟩
    go_wp2_with fail
    go_ret
    exact ⟨rfl, hb4⟩
  · obtain ⟨v, rfl, ho, hb1⟩ := hout
    have ho : w1.ownsRow w.heap.size 30 4 v T.length (T.flatMap tokL) := ho
    have hTn := comes_count hcm
    have HR := Lib.hid ((refTokens_call s w1).mono (R' := fun e w' => TokOut w1 e w' (.toks T)) fun e w' ⟨r', h1, h2⟩ => by rw [hcm.det h1]; exact h2)
    have HO := Lib.hid ho
    clear hcm ho
    go_wp2_with fail
    refine HR.out.mono ?_
    rintro e w2 ⟨v', rfl, ho', hb2⟩
    have ho' : w2.ownsRow w1.heap.size 30 4 v' T.length (T.flatMap tokL) := ho'
    have hbb := hb1.trans (hb2.mono hb1.size)
    have ho2 := HO.out.kept (w' := w2) (row := none) ⟨hb2.os, hb2.tape, hb2.output, hb2.size, fun i hi _ => hb2.block i hi⟩ (by rcases v.ownBlock with _ | g; exact .inl rfl; exact .inr (by simp))
    have HS := Lib.hid (same_from hTn hbb ho2 ho')
    clear hb1 hb2 hbb HR HO ho2 ho'
    go_wp2_with fail
    refine HS.out.mono ?_
    rintro e w3 ⟨rfl, hb3⟩
    have HA := Lib.hid (awake_from hb3 (HT.out.below hb3))
    clear HT hb3 HS
    go_wp2_with fail
    refine HA.out.mono ?_
    rintro e w4 ⟨rfl, hb4⟩
    go_wp2_with fail
    go_ret
    exact ⟨rfl, hb4⟩
end Go.Proofs.YtlbmamcchomecaaDoor
