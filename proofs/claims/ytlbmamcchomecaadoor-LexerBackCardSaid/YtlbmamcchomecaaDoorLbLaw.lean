/-
  The walk of bitemporallaw17.LexerBack.
-/
import Derived.Test.YtlbmamcchomecaaDoorLbText
namespace Go.Proofs.YtlbmamcchomecaaDoor
open Go.RowKit
set_option linter.unusedVariables false
set_option linter.unusedSimpArgs false

theorem core_len {T T' : List Tok} (h : T'.map core = T.map core) : T'.length = T.length := by simpa using congrArg List.length h
theorem core_at {T T' : List Tok} (h : T'.map core = T.map core) {k : Nat} (hk : k < T.length) (hk' : k < T'.length) : T'[k].kind = T[k].kind ∧ T'[k].text = T[k].text ∧ T'[k].int = T[k].int := by
  have e : (T'.map core)[k]? = (T.map core)[k]? := by rw [h]
  rw [List.getElem?_map, List.getElem?_map, List.getElem?_eq_getElem hk, List.getElem?_eq_getElem hk'] at e
  simp only [Option.map_some, Option.some.injEq, core, Prod.mk.injEq] at e
  exact e
structure Pair (w : World) (B B' : Nat) (A A' : Option Addr) (c c' : Nat) (T T' : List Tok) (wr : World) : Prop where
  a : wr.ownsRow B 30 4 (.slice A T.length c) T.length (T.flatMap tokL)
  b : wr.ownsRow B' 30 4 (.slice A' T'.length c') T'.length (T'.flatMap tokL)
  bel : Below w.heap.size w wr
def PrRel (w : World) (B B' : Nat) (A A' : Option Addr) (c c' : Nat) (T T' : List Tok) (i : Value) (wr : World) : Prop := ∃ k : Nat, k ≤ T.length ∧ i = .int .i64 k ∧ Pair w B B' A A' c c' T T' wr
theorem below_dN {B : Nat} {a w : World} (h : Below B a w) (n : Nat) : Below B a (w.drewN n) := ⟨h.os, h.tape, h.output, h.size, h.block⟩
set_option maxRecDepth 100000 in
set_option maxHeartbeats 4000000 in
theorem back_walk (s : ByteArray) (w : World) (h : Env w) : Calls Tryd.prog 6 #[.string s] w (TruePost w) := by
  have HE := Lib.hid h
  clear h
  go_enter Tryd.func6, Tryd.ntmps6
  go_wp2_with fail
  refine (tokens_call s w HE.out.tab).mono ?_
  rintro e w1 ⟨r, hcm, hout⟩
  rcases r with ⟨i, c⟩ | T
  · obtain ⟨rfl, hb1⟩ := hout
    have hc0 := comes_code hcm
    have c1 : ((c : Int) != 0) = true := by rw [bne_iff_ne]; omega
    have HA := Lib.hid (awake_from hb1 (HE.out.below hb1).tab)
    clear hcm hb1 HE
    go_wp2_with fail
    refine HA.out.mono ?_
    rintro e w2 ⟨rfl, hb2⟩
    go_wp2_with fail
    go_ret
    exact ⟨rfl, hb2⟩
  · obtain ⟨v, rfl, ho, hb1⟩ := hout
    have ho : w1.ownsRow w.heap.size 30 4 v T.length (T.flatMap tokL) := ho
    have hTn := comes_count hcm
    obtain ⟨A, n, cp, rfl⟩ := own_slice ho
    obtain rfl := own_len ho
    have HTX := Lib.hid (text_call w.heap.size A cp T w1 hTn (comes_ok hcm) ho (HE.out.below hb1))
    have HBK := Lib.hid (fun hn => comes_back hcm hn)
    have HO := Lib.hid ho
    clear hcm ho
    go_wp2_with fail
    refine HTX.out.mono ?_
    rintro e w2 ⟨rfl, hb2⟩
    have ho2 := kept_below HO.out hb2
    have hbb := hb1.trans (hb2.mono hb1.size)
    clear HO HTX hb1 hb2
    rcases Nat.lt_or_ge 65536 (textF T).length with hl | hl
    · have l1 : (65536 : Int) < ((textF T).length : Int) := by omega
      have HA := Lib.hid (awake_from hbb (HE.out.below hbb).tab)
      clear ho2 HBK hbb
      generalize textF T = X at hl l1 ⊢
      go_wp2_with fail
      refine HA.out.mono ?_
      rintro e w3 ⟨rfl, hb3⟩
      go_wp2_with fail
      go_ret
      exact ⟨rfl, hb3⟩
    · obtain ⟨T', hc2, hcore⟩ := HBK.out hl
      have l1 : ¬ (65536 : Int) < ((textF T).length : Int) := by omega
      have HTK := Lib.hid (tokens_at ⟨(textF T).toArray⟩ (textF T) (by simp) hc2 w2 (HE.out.below hbb).tab)
      have HCO := Lib.hid hcore
      have hlen := core_len hcore
      have HO2 := Lib.hid ho2
      clear HBK hc2 hcore ho2
      generalize textF T = X at hl l1 HTK ⊢
      go_wp2_with fail
      refine HTK.out.mono ?_
      rintro e w3 ⟨v', rfl, ho', hb3⟩
      have ho' : w3.ownsRow w2.heap.size 30 4 v' T'.length (T'.flatMap tokL) := ho'
      obtain ⟨A', n', cp', rfl⟩ := own_slice ho'
      obtain rfl := own_len ho'
      have HP : Hid (Pair w w.heap.size w2.heap.size A A' cp cp' T T' w3) := Lib.hid ⟨kept_below HO2.out hb3, ho', hbb.trans (hb3.mono hbb.size)⟩
      have d1 : ((T'.length : Int) != (T.length : Int)) = false := by rw [hlen]; simp
      have HL := Lib.hid hlen
      clear HO2 HTK hb3 hbb ho' hlen
      go_wp2_with fail
      clear d1
      go_loopw [48] (fun i wr => PrRel w w.heap.size w2.heap.size A A' cp cp' T T' i wr) (fun i _ => T.length - (intOf i).toNat)
      case atStart => exact ⟨0, Nat.zero_le _, rfl, HP.out⟩
      case round =>
        obtain ⟨k, hk, rfl, hI⟩ := hrel
        have HI := Lib.hid hI
        clear hI HP
        by_cases hlt : k < T.length
        · have hlt' : k < T'.length := by rw [HL.out]; exact hlt
          obtain ⟨g, rfl⟩ := own_addr HI.out.a (by omega)
          obtain ⟨g', rfl⟩ := own_addr HI.out.b (by omega)
          obtain ⟨x0, x1, x2, x3⟩ := tok_cells HI.out.a (g := g) rfl hlt
          obtain ⟨y0, y1, y2, y3⟩ := tok_cells HI.out.b (g := g') rfl hlt'
          obtain ⟨e1, e2, e3⟩ := core_at HCO.out hlt hlt'
          rw [e1] at y0
          rw [e2] at y1
          rw [e3] at y2
          clear e1 e2 e3 x3 y3
          have k0 : (0 : Int) ≤ (k : Int) := by omega
          have k1 : (k : Int) < (T.length : Int) := by omega
          have k2 : (k : Int) < (T'.length : Int) := by omega
          generalize T[k].kind = a0 at x0 y0
          generalize T[k].text = a1 at x1 y1
          generalize T[k].int = a2 at x2 y2
          have d1 : ((a0 : Int) != (a0 : Int)) = false := by simp
          have d2 : (a1 != a1) = false := by simp
          have d3 : ((a2 : Int) != (a2 : Int)) = false := by simp
          go_wp2_with fail
          go_quiet (fail)
          have HI2 : Hid (Pair w w.heap.size w2.heap.size (some ⟨g, 0, none⟩) (some ⟨g', 0, none⟩) cp cp' T T' (wr.drewN nq)) := Lib.hid ⟨HI.out.a, HI.out.b, below_dN HI.out.bel nq⟩
          clear x0 x1 x2 y0 y1 y2 HI d1 d2 d3
          generalize wr.drewN nq = w4 at HI2 ⊢
          go_wp2_with fail
          go_roundw
          case rel => exact ⟨k + 1, by omega, by go_num, HI2.out⟩
          case measure => simp [intOf]; omega
        · have HA := Lib.hid (awake_from HI.out.bel (HE.out.below HI.out.bel).tab)
          clear HI
          go_wp2_with fail
          refine HA.out.mono ?_
          rintro e w4 ⟨rfl, hb4⟩
          go_wp2_with fail
          go_ret
          exact ⟨rfl, hb4⟩
end Go.Proofs.YtlbmamcchomecaaDoor
