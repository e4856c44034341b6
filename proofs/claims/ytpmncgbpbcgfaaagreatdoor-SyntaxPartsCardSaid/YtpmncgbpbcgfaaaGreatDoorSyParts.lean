/-
  The walk of bitemporallaw18.SyntaxParts: it returns true for every text.
-/
import Derived.Test.YtpmncgbpbcgfaaaGreatDoorSyDepth
import Derived.Test.YtpmncgbpbcgfaaaGreatDoorSsD
import Derived.Test.YtpmncgbpbcgfaaaGreatDoorSxX
import Derived.Test.YtpmncgbpbcgfaaaGreatDoorPlB2
namespace Go.Proofs.YtpmncgbpbcgfaaaGreatDoor
open Go.RowKit
set_option linter.unusedVariables false
set_option linter.unusedSimpArgs false

theorem F2.len {α β : Type} {ρ : α → β → Prop} {l : List α} {l' : List β} (h : F2 ρ l l') : l.length = l'.length := by
  induction h with
  | nil => rfl
  | cons _ _ ih => simp [ih]
theorem F2.at_ {α β : Type} {ρ : α → β → Prop} {l : List α} {l' : List β} (h : F2 ρ l l') : ∀ (k : Nat) (h1 : k < l.length) (h2 : k < l'.length), ρ l[k] l'[k] := by
  induction h with
  | nil => intro k h1; simp at h1
  | cons hab _ ih =>
    intro k h1 h2
    rcases k with _ | k
    · exact hab
    · exact ih k (by simpa using h1) (by simpa using h2)
theorem stmOkK_at (s : ByteArray) (l : List UInt8) (hs : s.data.toList = l) {T : List Tok} (hr : Comes_ l (.toks T)) {m : Nat} (hm : 3 * T.length + 3 ≤ m) {a : Stm} (hp : pWhole (pStatement m) (cores T) = .ok a) (w : World) (ht : Tab w) :
    Calls Tryz.prog 6 #[.string s] w fun e w' => ∃ cs, e = .returned (.tuple #[.agg cs.toArray, .int .i64 0, .int .i64 0]) ∧ StmRep w' (fun _ => True) a cs ∧ Below w.heap.size w w' :=
  (statementK_call (m - (3 * T.length + 3)) s w ht).mono fun e w' ⟨r, h1, h2, h3⟩ => by
    rw [hs] at h1
    obtain rfl := hr.det h1
    unfold TopOut at h2
    dsimp only at h2
    rw [show 3 * T.length + 3 + (m - (3 * T.length + 3)) = m by omega, hp] at h2
    obtain ⟨cs, h4, h5⟩ := h2
    exact ⟨cs, h4, goodStm.mono h5 fun _ _ _ => trivial, h3⟩
set_option maxHeartbeats 8000000 in
set_option maxRecDepth 100000 in
theorem syntaxParts_walk (s : ByteArray) (w : World) (ht : Tab w) : Calls Tryz.prog 5 #[.string s] w fun e w' => e = .returned (.bool true) ∧ Below w.heap.size w w' := by
  have HT := Lib.hid ht
  clear ht
  go_enter Tryz.func5, Tryz.ntmps5
  go_wp2_with fail
  refine (script_call s w HT.out).mono ?_
  rintro e w1 ⟨v, i, c, rfl, hb, hcase⟩
  replace HT := Lib.hid (HT.out.below hb)
  rcases hcase with ⟨hc, rfl⟩ | ⟨rfl, T, L, hcm, hpw, hrep⟩
  · have d1 : ((c : Int) != 0) = true := by rw [bne_iff_ne]; omega
    go_wp2_with fail
    refine (awake18_call w1 HT.out).mono ?_
    rintro e w8 ⟨rfl, hb8⟩
    have HB := Lib.hid (hb.trans (hb8.mono hb.size))
    clear hb8 hb
    go_wp2_with fail
    go_ret
    exact ⟨rfl, HB.out⟩
  · obtain ⟨ps, hcut, hps⟩ := parts_law hcm hpw
    have hll := hps.len
    obtain ⟨A3, c3, rfl⟩ := hrep.form
    have hlenL := hrep.len_le
    unfold maxLen at hlenL
    have HPS := Lib.hid hps
    have HCM := Lib.hid hcm
    have HR := Lib.hid hrep
    clear hps hpw hrep
    go_wp2_with fail
    refine (cut_call s w1 HT.out).mono ?_
    rintro e w2 ⟨r, hc2, hout, hb2⟩
    obtain rfl := HCM.out.det hc2
    unfold CutOut at hout
    dsimp only at hout
    rw [hcut] at hout
    obtain ⟨v6, rfl, hrp⟩ := hout
    obtain ⟨A6, c6, rfl⟩ := hrp.form
    replace HT := Lib.hid (HT.out.below hb2)
    replace HR := Lib.hid (HR.out.below goodStm hb2)
    have HRP := Lib.hid hrp
    replace hb := hb.trans (hb2.mono hb.size)
    have hl2 : (ps.length : Int) = (L.length : Int) := by rw [hll]
    have d5 : ((ps.length : Int) != (L.length : Int)) = false := by rw [bne_eq_false_iff_eq]; exact hl2
    clear hc2 hcut hrp hb2 hl2
    go_wp2_with fail
    go_loopw [42] (fun c42 wr => ∃ k, LoopAt w2 ps.length k c42 wr) (fun c42 _ => ps.length - (intOf c42).toNat)
    case atStart => exact ⟨0, ⟨Nat.zero_le _, rfl, Below.refl _ _⟩⟩
    case round =>
      obtain ⟨k, ⟨hk, rfl, hbk⟩⟩ := hrel
      by_cases hlt : k < ps.length
      · have hlt2 : k < L.length := by omega
        obtain ⟨T', hct, hT', hpt⟩ := HPS.out.at_ k hlt hlt2
        have HCT := Lib.hid hct
        have HPT := Lib.hid hpt
        clear hct hpt
        obtain ⟨g, us, he⟩ := HRP.out.at_ hlt
        obtain rfl := he.addr
        replace he := he.below goodStr (hbk.mono (Nat.le_refl _))
        have r0 := he.cell 0 (by omega)
        rw [he.rep] at r0
        obtain ⟨g3, vs, hf⟩ := HR.out.at_ hlt2
        obtain rfl := hf.addr
        have HF := Lib.hid (hf.below goodStm (hbk.mono (Nat.le_refl _)))
        have c2 : (k : Int) < (ps.length : Int) := by omega
        have c2' : (k : Int) < (L.length : Int) := by omega
        have c3' : (0 : Int) ≤ (k : Int) := by omega
        have d1 : decide ((k : Int) < (ps.length : Int)) = true := decide_eq_true c2
        have e1 : IntKind.i64.wrap ((k : Int) + 1) = (k : Int) + 1 := by rw [IntWalk.i64_in _ (by omega)]
        have HTr := Lib.hid (HT.out.below hbk)
        clear he hf
        generalize ps[k] = p at r0 HCT
        generalize L[k] = a at HPT HF
        simp only [strCells, strV, List.getElem?_cons_zero, Nat.add_zero, Nat.mul_one] at r0
        go_wp2_with fail
        refine (stmOkK_at ⟨p.toArray⟩ p (by simp) HCT.out (m := 3 * T.length + 3) (by omega) HPT.out wr HTr.out).mono ?_
        rintro e w3 ⟨cs, rfl, hr3, hb3⟩
        have HL := Lib.hid (goodStm.len hr3)
        have HO := Lib.hid (goodStm.one hr3)
        have HR3 := Lib.hid hr3
        have hbk3 := hbk.trans (hb3.mono hbk.size)
        replace HF := Lib.hid (HF.out.below goodStm hb3)
        clear hb3 hr3 r0 hbk HTr
        go_wp2_with (refine store_new rfl 57 (.tmp 9) (.tmp 51) rfl cs rfl rfl 57 (stmZ Stm.zero) (by rw [HL.out]; kernel_rfl) (by rw [HL.out]; rfl) HO.out ?_)
        intro w4 hB hb4 hz4
        have hbk4 := hbk3.trans (hb4.mono hbk3.size)
        replace HF := Lib.hid (HF.out.below goodStm hb4)
        replace HR3 := Lib.hid (goodStm.below HR3.out hb4)
        have HLV := Lib.hid (goodStm.len HF.out.rep)
        have HQ := Lib.hid (HF.out.range goodStm)
        generalize w3.heap.size = gx at hB ⊢
        clear hb4 hz4 hbk3
        have HBA := Lib.hid hB.all
        clear hB
        go_upto_region 11 with (fail)
        go_still_tail 8, (by kernel_rfl)
        refine still_load rfl 57 (.tmp 9) rfl gx 0 rfl cs _ HBA.out Tryz.underlying57 rfl (by rw [HL.out]; kernel_rfl) ?_
        repeat still_step
        refine still_load rfl 57 (.tmp 60) rfl g3 (k * 60) rfl vs _ HQ.out Tryz.underlying57 rfl (by rw [HLV.out]; kernel_rfl) ?_
        refine wpStill_nil ?_
        change wpList _ _ _ _ _ (w4.drewN 1)
        have hbk5 := hbk4.trans ((belowD w4 1).mono hbk4.size)
        have HE := Lib.hid (goodStm.below HR3.out (belowD w4 1))
        have HG := Lib.hid (goodStm.below HF.out.rep (belowD w4 1))
        clear HBA HQ HF HR3 hbk4
        generalize w4.drewN 1 = w5 at hbk5 HE HG ⊢
        go_wp2_with fail
        refine (sameT_call a cs vs w5 _ _ HE.out HG.out).mono ?_
        rintro e w6 ⟨rfl, hb6⟩
        have hbk6 := hbk5.trans (hb6.mono hbk5.size)
        clear hb6 hbk5 HE HG
        go_wp2_with fail
        go_roundw
        case rel => exact ⟨k + 1, ⟨by omega, by go_num, hbk6⟩⟩
        case measure => simp [intOf]; omega
      · obtain rfl : k = ps.length := by omega
        have d1 : decide ((ps.length : Int) < (ps.length : Int)) = false := decide_eq_false (by omega)
        replace HT := Lib.hid (HT.out.below hbk)
        replace hb := hb.trans (hbk.mono hb.size)
        clear hbk
        go_wp2_with fail
        refine (awake18_call _ HT.out).mono ?_
        rintro e w8 ⟨rfl, hb8⟩
        have HB := Lib.hid (hb.trans (hb8.mono hb.size))
        clear hb8 hb
        go_wp2_with fail
        go_ret
        exact ⟨rfl, HB.out⟩
end Go.Proofs.YtpmncgbpbcgfaaaGreatDoor
