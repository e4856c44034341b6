import Derived.Test.YtpmncgbpbcgfaaaGreatDoorSsSel
import Derived.Test.YtpmncgbpbcgfaaaGreatDoorSsB
/-
  The reference's comparison of queries, at equal values.
-/
namespace Go.Proofs.YtpmncgbpbcgfaaaGreatDoor
open Go.RowKit
set_option linter.unusedVariables false
set_option linter.unusedSimpArgs false

/-- the load of a struct in a region that draws its order -/
theorem still_load {P : Program} {ops : Array Oper} {w : World} {Q : Act → Prop} {a : Act} {o : Oper} {rest : List Oper} (hw : Region.wanted o (yielded ops a.tmps) = true) (ty : TypeId) (x : Operand) (ho : o.op = .load ty x)
    (b k : Nat) (hx : a.eval x = .pointer (some ⟨b, k, none⟩)) (cs : List Value) (d : TypeDesc) (hc : w.rangeAt b k cs)
    (hu : P.underlying ty = some d) (hd : d.isRow = true) (hi : (P.info? ty).map (·.size) = some cs.length)
    (h : wpStill P ops w Q rest (a.put o.dst (.agg cs.toArray))) : wpStill P ops w Q (o :: rest) a :=
  wpStill_step fun K hK => by
    rw [if_pos hw]
    unfold Oper.still execOp
    simp only [ho, hx, Instr.loadAt, Instr.sureAddr, Sem.run_bind, Sem.run_pure, Result.andThen_ok, run_loadVar_mid w b k ty cs d hc hu hd hi]
    rw [Oper.stillUpon_value]
    exact hK _ h
set_option maxHeartbeats 8000000 in
set_option maxRecDepth 100000 in
theorem sameQ_call : ∀ (n : Nat) (q : Qry), Qry.dep q ≤ n → ∀ (cs ds : List Value) (w : World) (F G : Nat → Prop), QRep w F q cs → QRep w G q ds →
    Calls Tryz.prog 17 #[.agg cs.toArray, .agg ds.toArray] w fun e' w' => e' = .returned (.bool true) ∧ Below w.heap.size w w'
  | 0, q, h => absurd (qdep_pos q) (by omega)
  | n + 1, .mk op all s l o lim, h => by
    intro cs ds w F G h1 h2
    have HI := Lib.hid (sameQ_call n)
    have hdl : Qry.depL l ≤ n := by simp only [Qry.dep] at h; omega
    have HDX : Hid (∀ k (hk : k < l.length), Qry.dep l[k] ≤ n) := Lib.hid (fun k hk => Nat.le_trans (qdepL_at l k hk) hdl)
    obtain ⟨ss, va, vo, rfl, hs, hl, ho⟩ := qrep_iff.1 h1
    obtain ⟨st, ua, uo, rfl, ht, hm, hp⟩ := qrep_iff.1 h2
    obtain ⟨A, c, rfl⟩ := hl.form
    obtain ⟨B, d, rfl⟩ := hm.form
    obtain ⟨AO, cO, rfl⟩ := ho.form
    obtain ⟨BO, dO, rfl⟩ := hp.form
    have hlen := hl.len_le
    have hlenO := ho.len_le
    unfold maxLen at hlen hlenO
    have HL := Lib.hid hl
    have HM := Lib.hid hm
    have HO := Lib.hid ho
    have HP := Lib.hid hp
    have HS := Lib.hid hs
    have HT := Lib.hid ht
    have HSL := Lib.hid (goodSel.len hs)
    have HTL := Lib.hid (goodSel.len ht)
    clear h h1 h2 hl hm ho hp hs ht hdl
    go_enter Tryz.func17, Tryz.ntmps17
    go_wp2_with (refine box_new rfl 40 (.tmp 0) rfl (qCells op all ss (.slice A l.length c) (.slice AO o.length cO) lim) rfl ?_)
    intro w1 hB hw1 hz1
    go_wp2_with (refine box_new rfl 40 (.tmp 1) rfl (qCells op all st (.slice B l.length d) (.slice BO o.length dO) lim) rfl ?_)
    intro w2 hX hw2 hz2
    rw [← hz1] at hw2
    have h12 : Below w.heap.size w w2 := hw1.trans (hw2.mono hw1.size)
    replace HL := Lib.hid (HL.out.below goodQ h12)
    replace HM := Lib.hid (HM.out.below goodQ h12)
    replace HO := Lib.hid (HO.out.below goodOrd h12)
    replace HP := Lib.hid (HP.out.below goodOrd h12)
    replace HS := Lib.hid (goodSel.below HS.out h12)
    replace HT := Lib.hid (goodSel.below HT.out h12)
    replace hB := hB.below hw2
    have hbl := h12
    have HCB := Lib.hid (QCells.mk' hB HSL.out)
    have HCX := Lib.hid (QCells.mk' hX HTL.out)
    have b0 := HCB.out.c0
    have b1 := HCB.out.c1
    have b20 := HCB.out.args
    have b21 := HCB.out.ord
    have b22 := HCB.out.lim
    have x0 := HCX.out.c0
    have x1 := HCX.out.c1
    have x20 := HCX.out.args
    have x21 := HCX.out.ord
    have x22 := HCX.out.lim
    clear hw1 hw2 hz1 h12
    have hz2 : w.heap.size + 2 ≤ w2.heap.size := by omega
    go_wp2_with (first | (refine op_met rfl (wpList_load_mid rfl 36 (.tmp 45) rfl w.heap.size 2 rfl ss _ HCB.out.sel Tryz.underlying36 rfl (by rw [HSL.out]; kernel_rfl) ?_)) | (refine op_met rfl (wpList_load_mid rfl 36 (.tmp 47) rfl (w.heap.size + 1) 2 rfl st _ HCX.out.sel Tryz.underlying36 rfl (by rw [HTL.out]; kernel_rfl) ?_)))
    refine (sameSel_call s ss st w2 F G HS.out HT.out).mono ?_
    rintro e' w3 ⟨rfl, hw3⟩
    replace hbl := hbl.trans (hw3.mono hbl.size)
    replace HL := Lib.hid (HL.out.below goodQ hw3)
    replace HM := Lib.hid (HM.out.below goodQ hw3)
    replace HO := Lib.hid (HO.out.below goodOrd hw3)
    replace HP := Lib.hid (HP.out.below goodOrd hw3)
    replace hB := hB.below hw3
    replace hX := hX.below hw3
    have hz3 : w.heap.size + 2 ≤ w3.heap.size := by have := hw3.size; omega
    clear hw3 HCB HCX HS HT b0 b1 b20 b21 b22 x0 x1 x20 x21 x22
    go_wp2_with fail
    go_loopw [5] (fun c5 wr => ∃ k, LoopAt w3 o.length k c5 wr) (fun c5 _ => o.length - (intOf c5).toNat)
    case atStart => exact ⟨0, ⟨Nat.zero_le _, rfl, Below.refl _ _⟩⟩
    case round =>
      obtain ⟨k, ⟨hk, rfl, hb⟩⟩ := hrel
      have b21 := (QCells.mk' (hB.below hb) HSL.out).ord
      have x21 := (QCells.mk' (hX.below hb) HTL.out).ord
      by_cases hlt : k < o.length
      · obtain ⟨g, us, he⟩ := HO.out.at_ hlt
        obtain ⟨g', vs, hf⟩ := HP.out.at_ hlt
        obtain rfl := he.addr
        obtain rfl := hf.addr
        replace he := he.below goodOrd (hb.mono (Nat.le_refl _))
        replace hf := hf.below goodOrd (hb.mono (Nat.le_refl _))
        have r0 := he.cell 0 (by omega)
        have r1 := he.cell 1 (by omega)
        have s0 := hf.cell 0 (by omega)
        have s1 := hf.cell 1 (by omega)
        rw [he.rep] at r0 r1
        rw [hf.rep] at s0 s1
        have c2 : (k : Int) < (o.length : Int) := by omega
        have c3 : (0 : Int) ≤ (k : Int) := by omega
        have d1 : decide ((k : Int) < (o.length : Int)) = true := decide_eq_true c2
        clear he hf
        generalize o[k] = x at *
        simp only [ordCells, natV, List.getElem?_cons_zero, List.getElem?_cons_succ, Nat.add_zero] at r0 r1 s0 s1
        go_upto_region 6 with (fail)
        go_quiet (fail)
        refine name_drew (K := Exit.then _ _ _ _) fun w4 hw4 hz4 => ?_
        have hb4 := hb.trans (hw4.mono hb.size)
        clear hw4 hb r0 r1 s0 s1 b21 x21
        go_wp2_with fail
        go_roundw
        case rel => exact ⟨k + 1, ⟨by omega, by go_num, hb4⟩⟩
        case measure => simp [intOf]; omega
      · obtain rfl : k = o.length := by omega
        have d1 : decide ((o.length : Int) < (o.length : Int)) = false := decide_eq_false (by omega)
        replace hbl := hbl.trans (hb.mono hbl.size)
        replace HL := Lib.hid (HL.out.below goodQ hb)
        replace HM := Lib.hid (HM.out.below goodQ hb)
        replace hB := hB.below hb
        replace hX := hX.below hb
        replace hz3 : w.heap.size + 2 ≤ wr.heap.size := by have := hb.size; omega
        clear hb HO HP
        go_wp2_with fail
        clear b21 x21 d1
        generalize hwq : (wr : World) = w9 at hB hX HL HM hbl hz3 ⊢
        clear hwq
        go_loopw [6] (fun c6 wr => ∃ k, LoopAt w9 l.length k c6 wr) (fun c6 _ => l.length - (intOf c6).toNat)
        case atStart => exact ⟨0, ⟨Nat.zero_le _, rfl, Below.refl _ _⟩⟩
        case round =>
          obtain ⟨k, ⟨hk, rfl, hb⟩⟩ := hrel
          have b20 := (QCells.mk' (hB.below hb) HSL.out).args
          have x20 := (QCells.mk' (hX.below hb) HTL.out).args
          by_cases hlt : k < l.length
          · have HDk := Lib.hid (HDX.out k hlt)
            obtain ⟨g, us, he⟩ := HL.out.at_ hlt
            obtain ⟨g', vs, hf⟩ := HM.out.at_ hlt
            obtain rfl := he.addr
            obtain rfl := hf.addr
            replace he := he.below goodQ (hb.mono (Nat.le_refl _))
            replace hf := hf.below goodQ (hb.mono (Nat.le_refl _))
            have HE := Lib.hid he.rep
            have HF := Lib.hid hf.rep
            have HR := Lib.hid (he.range goodQ)
            have HQ := Lib.hid (hf.range goodQ)
            have HLU := Lib.hid (goodQ.len he.rep)
            have HLV := Lib.hid (goodQ.len hf.rep)
            have c2 : (k : Int) < (l.length : Int) := by omega
            have c3 : (0 : Int) ≤ (k : Int) := by omega
            have d1 : decide ((k : Int) < (l.length : Int)) = true := decide_eq_true c2
            clear he hf
            generalize l[k] = x at HE HF HDk
            go_upto_region 11 with (fail)
            go_still_tail 10, (by kernel_rfl)
            refine still_load rfl 40 (.tmp 80) rfl g (k * 23) rfl us _ HR.out Tryz.underlying40 rfl (by rw [HLU.out]; kernel_rfl) ?_
            repeat still_step
            refine still_load rfl 40 (.tmp 85) rfl g' (k * 23) rfl vs _ HQ.out Tryz.underlying40 rfl (by rw [HLV.out]; kernel_rfl) ?_
            refine wpStill_nil ?_
            change wpList _ _ _ _ _ (wr.drewN 1)
            have hb3 := hb.trans ((belowD wr 1).mono hb.size)
            replace HE := Lib.hid (goodQ.below HE.out (belowD wr 1))
            replace HF := Lib.hid (goodQ.below HF.out (belowD wr 1))
            clear b20 x20 HR HQ hb
            generalize wr.drewN 1 = w3 at hb3 HE HF ⊢
            go_wp2_with fail
            refine (HI.out x HDk.out _ _ w3 F G HE.out HF.out).mono ?_
            rintro e' w7 ⟨rfl, hw7⟩
            have hb7 := hb3.trans (hw7.mono hb3.size)
            clear hw7 HE HF hb3
            go_wp2_with fail
            go_roundw
            case rel => exact ⟨k + 1, ⟨by omega, by go_num, hb7⟩⟩
            case measure => simp [intOf]; omega
          · obtain rfl : k = l.length := by omega
            have d1 : decide ((l.length : Int) < (l.length : Int)) = false := decide_eq_false (by omega)
            have HB := Lib.hid (hbl.trans (hb.mono hbl.size))
            clear hb hbl
            go_wp2_with fail
            go_ret
            exact ⟨rfl, HB.out⟩
end Go.Proofs.YtpmncgbpbcgfaaaGreatDoor

/-
  The reference's comparison of tables, at equal values.
-/
namespace Go.Proofs.YtpmncgbpbcgfaaaGreatDoor
open Go.RowKit
set_option linter.unusedVariables false
set_option linter.unusedSimpArgs false

theorem TblIs.below {w w' : World} {F : Nat → Prop} {a : Tbl} {vc vk vf : Value} (h : TblIs w F a vc vk vf) (hb : Below w.heap.size w w') : TblIs w' F a vc vk vf := ⟨h.cols.below goodCol hb, h.key.below goodInt hb, h.frns.below goodFrn hb⟩
set_option maxHeartbeats 8000000 in
set_option maxRecDepth 100000 in
theorem sameTbl_call (a : Tbl) (vc vk vf uc uk uf : Value) (w : World) (F G : Nat → Prop) (h1 : TblIs w F a vc vk vf) (h2 : TblIs w G a uc uk uf) :
    Calls Tryz.prog 20 #[.agg (tblCells a vc vk vf).toArray, .agg (tblCells a uc uk uf).toArray] w fun e' w' => e' = .returned (.bool true) ∧ Below w.heap.size w w' := by
  obtain ⟨AC, cC, rfl⟩ := h1.cols.form
  obtain ⟨AK, cK, rfl⟩ := h1.key.form
  obtain ⟨AF, cF, rfl⟩ := h1.frns.form
  obtain ⟨BC, dC, rfl⟩ := h2.cols.form
  obtain ⟨BK, dK, rfl⟩ := h2.key.form
  obtain ⟨BF, dF, rfl⟩ := h2.frns.form
  have hlenC := h1.cols.len_le
  have hlenF := h1.frns.len_le
  unfold maxLen at hlenC hlenF
  have HS := Lib.hid h1
  have HT := Lib.hid h2
  clear h1 h2
  go_enter Tryz.func20, Tryz.ntmps20
  go_wp2_with (refine box_new rfl 47 (.tmp 0) rfl (tblCells a (.slice AC a.cols.length cC) (.slice AK a.key.length cK) (.slice AF a.frns.length cF)) rfl ?_)
  intro w1 hB hw1 hz1
  go_wp2_with (refine box_new rfl 47 (.tmp 1) rfl (tblCells a (.slice BC a.cols.length dC) (.slice BK a.key.length dK) (.slice BF a.frns.length dF)) rfl ?_)
  intro w2 hX hw2 hz2
  rw [← hz1] at hw2
  have h12 : Below w.heap.size w w2 := hw1.trans (hw2.mono hw1.size)
  replace HS := Lib.hid (HS.out.below h12)
  replace HT := Lib.hid (HT.out.below h12)
  replace hB := hB.below hw2
  have hbl := h12
  have b0 : w2.cell? ⟨w.heap.size, 0, none⟩ = some (.string ⟨a.name.toArray⟩) := hB.cell 0 rfl
  have x0 : w2.cell? ⟨w.heap.size + 1, 0, none⟩ = some (.string ⟨a.name.toArray⟩) := hX.cell 0 rfl
  have b1 := hB.cell 1 rfl
  have x1 := hX.cell 1 rfl
  have b2 := hB.cell 2 rfl
  have x2 := hX.cell 2 rfl
  clear hw1 hw2 hz1 h12
  have hz2 : w.heap.size + 2 ≤ w2.heap.size := by omega
  go_wp2_with fail
  refine (ints_call a.key _ _ w2 F G HS.out.key HT.out.key).mono ?_
  rintro e' w3 ⟨rfl, hw3⟩
  replace hbl := hbl.trans (hw3.mono hbl.size)
  replace HS := Lib.hid (HS.out.below hw3)
  replace HT := Lib.hid (HT.out.below hw3)
  replace hB := hB.below hw3
  replace hX := hX.below hw3
  have hz3 : w.heap.size + 2 ≤ w3.heap.size := by have := hw3.size; omega
  clear hw3 hz2 b0 x0 b1 x1 b2 x2
  have b3 := hB.cell 3 rfl
  have x3 := hX.cell 3 rfl
  have b4 := hB.cell 4 rfl
  have x4 := hX.cell 4 rfl
  go_wp2_with fail
  refine (listE_call [] _ _ w3 F G (.inl ⟨rfl, rfl⟩) (.inl ⟨rfl, rfl⟩)).mono ?_
  rintro e' w4 ⟨rfl, hw4⟩
  replace hbl := hbl.trans (hw4.mono hbl.size)
  replace HS := Lib.hid (HS.out.below hw4)
  replace HT := Lib.hid (HT.out.below hw4)
  replace hB := hB.below hw4
  replace hX := hX.below hw4
  have hz4 : w.heap.size + 2 ≤ w4.heap.size := by have := hw4.size; omega
  clear hw4 hz3 b3 x3 b4 x4
  go_wp2_with fail
  go_loopw [5] (fun c wr => ∃ k, LoopAt w4 a.cols.length k c wr) (fun c _ => a.cols.length - (intOf c).toNat)
  case atStart => exact ⟨0, ⟨Nat.zero_le _, rfl, Below.refl _ _⟩⟩
  case round =>
    obtain ⟨k, ⟨hk, rfl, hb⟩⟩ := hrel
    have b1 := (hB.below hb).cell 1 rfl
    have x1 := (hX.below hb).cell 1 rfl
    by_cases hlt : k < a.cols.length
    · have tt : True := trivial
      obtain ⟨g, us, he⟩ := HS.out.cols.at_ hlt
      obtain ⟨g', vs, hf⟩ := HT.out.cols.at_ hlt
      obtain rfl := he.addr
      obtain rfl := hf.addr
      replace he := he.below goodCol (hb.mono (Nat.le_refl _))
      replace hf := hf.below goodCol (hb.mono (Nat.le_refl _))
      have r0 := he.cell 0 (by omega)
      have s0 := hf.cell 0 (by omega)
      have r1 := he.cell 1 (by omega)
      have s1 := hf.cell 1 (by omega)
      have r2 := he.cell 2 (by omega)
      have s2 := hf.cell 2 (by omega)
      rw [he.rep] at r0 r1 r2
      rw [hf.rep] at s0 s1 s2
      have c2 : (k : Int) < (a.cols.length : Int) := by omega
      have c3 : (0 : Int) ≤ (k : Int) := by omega
      have d1 : decide ((k : Int) < (a.cols.length : Int)) = true := decide_eq_true c2
      clear he hf
      generalize a.cols[k] = x at *
      simp only [colCells, natV, strV, List.getElem?_cons_zero, List.getElem?_cons_succ, Nat.add_zero] at r0 s0 r1 s1 r2 s2
      go_upto_region 6 with (fail)
      go_quiet (fail)
      refine name_drew (K := Exit.then _ _ _ _) fun w5 hw5 hz5 => ?_
      have hb5 := hb.trans (hw5.mono hb.size)
      clear hw5 hb b1 x1 r0 s0 r1 s1 r2 s2
      go_wp2_with fail
      go_roundw
      case rel => exact ⟨k + 1, ⟨by omega, by go_num, hb5⟩⟩
      case measure => simp [intOf]; omega
    · obtain rfl : k = a.cols.length := by omega
      have d1 : decide ((a.cols.length : Int) < (a.cols.length : Int)) = false := decide_eq_false (by omega)
      replace hbl := hbl.trans (hb.mono hbl.size)
      replace HS := Lib.hid (HS.out.below hb)
      replace HT := Lib.hid (HT.out.below hb)
      replace hB := hB.below hb
      replace hX := hX.below hb
      replace hz4 : w.heap.size + 2 ≤ wr.heap.size := by have := hb.size; omega
      clear hb
      go_wp2_with fail
      clear b1 x1 d1
      generalize hwq : (wr : World) = w9 at hB hX HS HT hbl hz4 ⊢
      clear hwq
      go_loopw [6] (fun c wr => ∃ k, LoopAt w9 a.frns.length k c wr) (fun c _ => a.frns.length - (intOf c).toNat)
      case atStart => exact ⟨0, ⟨Nat.zero_le _, rfl, Below.refl _ _⟩⟩
      case round =>
        obtain ⟨k, ⟨hk, rfl, hb⟩⟩ := hrel
        have b3 := (hB.below hb).cell 3 rfl
        have x3 := (hX.below hb).cell 3 rfl
        by_cases hlt : k < a.frns.length
        · have tt : True := trivial
          obtain ⟨g, us, he⟩ := HS.out.frns.at_ hlt
          obtain ⟨g', vs, hf⟩ := HT.out.frns.at_ hlt
          obtain rfl := he.addr
          obtain rfl := hf.addr
          replace he := he.below goodFrn (hb.mono (Nat.le_refl _))
          replace hf := hf.below goodFrn (hb.mono (Nat.le_refl _))
          obtain ⟨v, hv, rfl⟩ := he.rep
          obtain ⟨u, hu, rfl⟩ := hf.rep
          have HE := Lib.hid hv
          have HF := Lib.hid hu
          have r0 := he.cell 0 (by omega)
          have s0 := hf.cell 0 (by omega)
          have r1 := he.cell 1 (by omega)
          have s1 := hf.cell 1 (by omega)
          have c2 : (k : Int) < (a.frns.length : Int) := by omega
          have c3 : (0 : Int) ≤ (k : Int) := by omega
          have d1 : decide ((k : Int) < (a.frns.length : Int)) = true := decide_eq_true c2
          clear he hf hv hu
          generalize a.frns[k] = x at *
          simp only [strV, List.getElem?_cons_zero, List.getElem?_cons_succ, Nat.add_zero] at r0 s0 r1 s1
          go_upto_region 11 with (fail)
          go_still_tail 26, (by kernel_rfl)
          change wpList _ _ _ _ _ (wr.drewN 1)
          have hb3 := hb.trans ((belowD wr 1).mono hb.size)
          replace HE := Lib.hid (HE.out.below goodInt (belowD wr 1))
          replace HF := Lib.hid (HF.out.below goodInt (belowD wr 1))
          clear b3 x3 hb r0 s0 r1 s1
          generalize wr.drewN 1 = w5 at hb3 HE HF ⊢
          go_wp2_with fail
          refine (ints_call x.cols _ _ w5 F G HE.out HF.out).mono ?_
          rintro e' w7 ⟨rfl, hw7⟩
          have hb7 := hb3.trans (hw7.mono hb3.size)
          clear hw7 HE HF hb3
          go_wp2_with fail
          go_roundw
          case rel => exact ⟨k + 1, ⟨by omega, by go_num, hb7⟩⟩
          case measure => simp [intOf]; omega
        · obtain rfl : k = a.frns.length := by omega
          have d1 : decide ((a.frns.length : Int) < (a.frns.length : Int)) = false := decide_eq_false (by omega)
          have HB := Lib.hid (hbl.trans (hb.mono hbl.size))
          clear hb hbl
          go_wp2_with fail
          go_ret
          exact ⟨rfl, HB.out⟩
end Go.Proofs.YtpmncgbpbcgfaaaGreatDoor

/-
  The reference's comparison of a statement's lists, at equal values.
-/
namespace Go.Proofs.YtpmncgbpbcgfaaaGreatDoor
open Go.RowKit
set_option linter.unusedVariables false
set_option linter.unusedSimpArgs false

set_option maxHeartbeats 8000000 in
set_option maxRecDepth 100000 in
theorem sameLists_call (a : Stm) (cs ds : List Value) (w : World) (F G : Nat → Prop) (h1 : StmRep w F a cs) (h2 : StmRep w G a ds) :
    Calls Tryz.prog 18 #[.agg cs.toArray, .agg ds.toArray] w fun e' w' => e' = .returned (.bool true) ∧ Below w.heap.size w w' := by
  obtain ⟨qs, vr, vs, es, vc, vk, vf, vh, hs, rfl⟩ := h1
  obtain ⟨ps, ur, us, fs, uc, uk, uf, uh, ht, rfl⟩ := h2
  obtain ⟨AR, cR, rfl⟩ := hs.rows.form
  obtain ⟨AS, cS, rfl⟩ := hs.sets.form
  obtain ⟨BR, dR, rfl⟩ := ht.rows.form
  obtain ⟨BS, dS, rfl⟩ := ht.sets.form
  have hlenR := hs.rows.len_le
  have hlenS := hs.sets.len_le
  unfold maxLen at hlenR hlenS
  have HS := Lib.hid hs
  have HT := Lib.hid ht
  have HEL := Lib.hid hs.cond.len
  have HFL := Lib.hid ht.cond.len
  have HQL := Lib.hid (goodQ.len hs.query)
  have HPL := Lib.hid (goodQ.len ht.query)
  clear hs ht
  go_enter Tryz.func18, Tryz.ntmps18
  go_wp2_with (refine box_new rfl 57 (.tmp 0) rfl (stmCells a qs (.slice AR a.rows.length cR) (.slice AS a.sets.length cS) es vc vk vf vh) rfl ?_)
  intro w1 hB hw1 hz1
  go_wp2_with (refine box_new rfl 57 (.tmp 1) rfl (stmCells a ps (.slice BR a.rows.length dR) (.slice BS a.sets.length dS) fs uc uk uf uh) rfl ?_)
  intro w2 hX hw2 hz2
  rw [← hz1] at hw2
  have h12 : Below w.heap.size w w2 := hw1.trans (hw2.mono hw1.size)
  replace HS := Lib.hid (HS.out.below h12)
  replace HT := Lib.hid (HT.out.below h12)
  replace hB := hB.below hw2
  have hbl := h12
  have HCB := Lib.hid (TCells.mk' hB HQL.out HEL.out)
  have HCX := Lib.hid (TCells.mk' hX HPL.out HFL.out)
  have b28 := HCB.out.rows
  have x28 := HCX.out.rows
  have b29 := HCB.out.sets
  have x29 := HCX.out.sets
  have b43 := HCB.out.checks
  have x43 := HCX.out.checks
  clear hw1 hw2 hz1 h12 HCB HCX
  have hz2 : w.heap.size + 2 ≤ w2.heap.size := by omega
  go_wp2_with fail
  refine (listE_call a.checks _ _ w2 F G HS.out.checks HT.out.checks).mono ?_
  rintro e' w4 ⟨rfl, hw4⟩
  replace hbl := hbl.trans (hw4.mono hbl.size)
  replace HS := Lib.hid (HS.out.below hw4)
  replace HT := Lib.hid (HT.out.below hw4)
  replace hB := hB.below hw4
  replace hX := hX.below hw4
  have hz4 : w.heap.size + 2 ≤ w4.heap.size := by have := hw4.size; omega
  clear hw4 hz2 b28 x28 b29 x29 b43 x43
  go_wp2_with fail
  go_loopw [5] (fun c wr => ∃ k, LoopAt w4 a.rows.length k c wr) (fun c _ => a.rows.length - (intOf c).toNat)
  case atStart => exact ⟨0, ⟨Nat.zero_le _, rfl, Below.refl _ _⟩⟩
  case round =>
    obtain ⟨k, ⟨hk, rfl, hb⟩⟩ := hrel
    have b28 := (TCells.mk' (hB.below hb) HQL.out HEL.out).rows
    have x28 := (TCells.mk' (hX.below hb) HPL.out HFL.out).rows
    by_cases hlt : k < a.rows.length
    · have tt : True := trivial
      obtain ⟨g, us, he⟩ := HS.out.rows.at_ hlt
      obtain ⟨g', vs, hf⟩ := HT.out.rows.at_ hlt
      obtain rfl := he.addr
      obtain rfl := hf.addr
      replace he := he.below goodRow (hb.mono (Nat.le_refl _))
      replace hf := hf.below goodRow (hb.mono (Nat.le_refl _))
      obtain ⟨v, hv, rfl⟩ := he.rep
      obtain ⟨u, hu, rfl⟩ := hf.rep
      have HE := Lib.hid hv
      have HF := Lib.hid hu
      have r0 := he.cell 0 (by omega)
      have s0 := hf.cell 0 (by omega)
      have c2 : (k : Int) < (a.rows.length : Int) := by omega
      have c3 : (0 : Int) ≤ (k : Int) := by omega
      have d1 : decide ((k : Int) < (a.rows.length : Int)) = true := decide_eq_true c2
      clear he hf hv hu
      generalize a.rows[k] = x at *
      simp only [List.getElem?_cons_zero, Nat.add_zero, Nat.mul_one] at r0 s0
      go_upto_region 6 with (fail)
      go_still_tail 10, (by kernel_rfl)
      change wpList _ _ _ _ _ (wr.drewN 1)
      have hb3 := hb.trans ((belowD wr 1).mono hb.size)
      replace HE := Lib.hid (HE.out.below goodE (belowD wr 1))
      replace HF := Lib.hid (HF.out.below goodE (belowD wr 1))
      clear b28 x28 hb r0 s0
      generalize wr.drewN 1 = w5 at hb3 HE HF ⊢
      go_wp2_with fail
      refine (listE_call x _ _ w5 F G HE.out HF.out).mono ?_
      rintro e' w7 ⟨rfl, hw7⟩
      have hb7 := hb3.trans (hw7.mono hb3.size)
      clear hw7 HE HF hb3
      go_wp2_with fail
      go_roundw
      case rel => exact ⟨k + 1, ⟨by omega, by go_num, hb7⟩⟩
      case measure => simp [intOf]; omega
    · obtain rfl : k = a.rows.length := by omega
      have d1 : decide ((a.rows.length : Int) < (a.rows.length : Int)) = false := decide_eq_false (by omega)
      replace hbl := hbl.trans (hb.mono hbl.size)
      replace HS := Lib.hid (HS.out.below hb)
      replace HT := Lib.hid (HT.out.below hb)
      replace hB := hB.below hb
      replace hX := hX.below hb
      replace hz4 : w.heap.size + 2 ≤ wr.heap.size := by have := hb.size; omega
      clear hb
      go_wp2_with fail
      clear b28 x28 d1
      generalize hwq : (wr : World) = w9 at hB hX HS HT hbl hz4 ⊢
      clear hwq
      go_loopw [6] (fun c wr => ∃ k, LoopAt w9 a.sets.length k c wr) (fun c _ => a.sets.length - (intOf c).toNat)
      case atStart => exact ⟨0, ⟨Nat.zero_le _, rfl, Below.refl _ _⟩⟩
      case round =>
        obtain ⟨k, ⟨hk, rfl, hb⟩⟩ := hrel
        have b29 := (TCells.mk' (hB.below hb) HQL.out HEL.out).sets
        have x29 := (TCells.mk' (hX.below hb) HPL.out HFL.out).sets
        by_cases hlt : k < a.sets.length
        · have tt : True := trivial
          obtain ⟨g, us, he⟩ := HS.out.sets.at_ hlt
          obtain ⟨g', vs, hf⟩ := HT.out.sets.at_ hlt
          obtain rfl := he.addr
          obtain rfl := hf.addr
          replace he := he.below goodSet (hb.mono (Nat.le_refl _))
          replace hf := hf.below goodSet (hb.mono (Nat.le_refl _))
          obtain ⟨xs, hx, rfl⟩ := he.rep
          obtain ⟨ys, hy, rfl⟩ := hf.rep
          have HE := Lib.hid hx
          have HF := Lib.hid hy
          obtain ⟨p0, p1, p2, p3, p4, p5, P, p6, p7, rfl⟩ := erep_lit hx
          obtain ⟨q0, q1, q2, q3, q4, q5, Q, q6, q7, rfl⟩ := erep_lit hy
          have r0 := he.cell 0 (by omega)
          have s0 := hf.cell 0 (by omega)
          have r1 := he.cell 1 (by omega)
          have s1 := hf.cell 1 (by omega)
          have r2 := he.cell 2 (by omega)
          have s2 := hf.cell 2 (by omega)
          have r3 := he.cell 3 (by omega)
          have s3 := hf.cell 3 (by omega)
          have r4 := he.cell 4 (by omega)
          have s4 := hf.cell 4 (by omega)
          have r5 := he.cell 5 (by omega)
          have s5 := hf.cell 5 (by omega)
          have r6 := he.cell 6 (by omega)
          have s6 := hf.cell 6 (by omega)
          have r7 := he.cell 7 (by omega)
          have s7 := hf.cell 7 (by omega)
          have c2 : (k : Int) < (a.sets.length : Int) := by omega
          have c3 : (0 : Int) ≤ (k : Int) := by omega
          have d1 : decide ((k : Int) < (a.sets.length : Int)) = true := decide_eq_true c2
          clear he hf hx hy
          generalize a.sets[k] = x at *
          simp only [strV, List.getElem?_cons_zero, List.getElem?_cons_succ, Nat.add_zero] at r0 s0 r1 s1 r2 s2 r3 s3 r4 s4 r5 s5 r6 s6 r7 s7
          go_upto_region 11 with (fail)
          go_still_tail 26, (by kernel_rfl)
          change wpList _ _ _ _ _ (wr.drewN 1)
          have hb3 := hb.trans ((belowD wr 1).mono hb.size)
          replace HE := Lib.hid (goodE.below HE.out (belowD wr 1))
          replace HF := Lib.hid (goodE.below HF.out (belowD wr 1))
          clear b29 x29 hb r0 s0 r1 s1 r2 s2 r3 s3 r4 s4 r5 s5 r6 s6 r7 s7
          generalize wr.drewN 1 = w5 at hb3 HE HF ⊢
          go_wp2_with fail
          refine (sameE HE.out HF.out).mono ?_
          rintro e' w7 ⟨rfl, hw7⟩
          have hb7 := hb3.trans (hw7.mono hb3.size)
          clear hw7 HE HF hb3
          go_wp2_with fail
          go_roundw
          case rel => exact ⟨k + 1, ⟨by omega, by go_num, hb7⟩⟩
          case measure => simp [intOf]; omega
        · obtain rfl : k = a.sets.length := by omega
          have d1 : decide ((a.sets.length : Int) < (a.sets.length : Int)) = false := decide_eq_false (by omega)
          have HB := Lib.hid (hbl.trans (hb.mono hbl.size))
          clear hb hbl
          go_wp2_with fail
          go_ret
          exact ⟨rfl, HB.out⟩
end Go.Proofs.YtpmncgbpbcgfaaaGreatDoor

/-
  The reference's comparison of statements, at equal values.
-/
namespace Go.Proofs.YtpmncgbpbcgfaaaGreatDoor
open Go.RowKit
set_option linter.unusedVariables false
set_option linter.unusedSimpArgs false

set_option maxHeartbeats 8000000 in
set_option maxRecDepth 100000 in
theorem sameT_call (a : Stm) (cs ds : List Value) (w : World) (F G : Nat → Prop) (h1 : StmRep w F a cs) (h2 : StmRep w G a ds) :
    Calls Tryz.prog 8 #[.agg cs.toArray, .agg ds.toArray] w fun e' w' => e' = .returned (.bool true) ∧ Below w.heap.size w w' := by
  obtain ⟨qs, vr, vs, es, vc, vk, vf, vh, hs, rfl⟩ := h1
  obtain ⟨ps, ur, us, fs, uc, uk, uf, uh, ht, rfl⟩ := h2
  obtain ⟨AR, cR, rfl⟩ := hs.rows.form
  obtain ⟨AS, cS, rfl⟩ := hs.sets.form
  obtain ⟨BR, dR, rfl⟩ := ht.rows.form
  obtain ⟨BS, dS, rfl⟩ := ht.sets.form
  have hlenR := hs.rows.len_le
  have hlenS := hs.sets.len_le
  unfold maxLen at hlenR hlenS
  have HS := Lib.hid hs
  have HT := Lib.hid ht
  have HEL := Lib.hid hs.cond.len
  have HFL := Lib.hid ht.cond.len
  have HQL := Lib.hid (goodQ.len hs.query)
  have HPL := Lib.hid (goodQ.len ht.query)
  clear hs ht
  have HRS : Hid (StmRep w F a _) := Lib.hid ⟨qs, _, _, es, vc, vk, vf, vh, HS.out, rfl⟩
  have HRT : Hid (StmRep w G a _) := Lib.hid ⟨ps, _, _, fs, uc, uk, uf, uh, HT.out, rfl⟩
  have HLS := Lib.hid (goodStm.len HRS.out)
  have HLT := Lib.hid (goodStm.len HRT.out)
  go_enter Tryz.func8, Tryz.ntmps8
  go_wp2_with (refine box_new rfl 57 (.tmp 0) rfl (stmCells a qs (.slice AR a.rows.length cR) (.slice AS a.sets.length cS) es vc vk vf vh) rfl ?_)
  intro w1 hB hw1 hz1
  go_wp2_with (refine box_new rfl 57 (.tmp 1) rfl (stmCells a ps (.slice BR a.rows.length dR) (.slice BS a.sets.length dS) fs uc uk uf uh) rfl ?_)
  intro w2 hX hw2 hz2
  rw [← hz1] at hw2
  have h12 : Below w.heap.size w w2 := hw1.trans (hw2.mono hw1.size)
  replace HS := Lib.hid (HS.out.below h12)
  replace HT := Lib.hid (HT.out.below h12)
  replace hB := hB.below hw2
  have hbl := h12
  replace HRS := Lib.hid (goodStm.below HRS.out h12)
  replace HRT := Lib.hid (goodStm.below HRT.out h12)
  have HCB := Lib.hid (TCells.mk' hB HQL.out HEL.out)
  have HCX := Lib.hid (TCells.mk' hX HPL.out HFL.out)
  have b0 := HCB.out.kind
  have x0 := HCX.out.kind
  have b1 := HCB.out.mode
  have x1 := HCX.out.mode
  have b2 := HCB.out.v0
  have x2 := HCX.out.v0
  have b3 := HCB.out.v1
  have x3 := HCX.out.v1
  have b27 : w2.cell? ⟨w.heap.size, 27, none⟩ = some (.string ⟨a.name.toArray⟩) := HCB.out.name
  have x27 : w2.cell? ⟨w.heap.size + 1, 27, none⟩ = some (.string ⟨a.name.toArray⟩) := HCX.out.name
  have b30 := HCB.out.has
  have x30 := HCX.out.has
  have b59 := HCB.out.number
  have x59 := HCX.out.number
  have b44 : w2.cell? ⟨w.heap.size, 44, none⟩ = some (.int .i64 (a.change.kind : Int)) := HCB.out.change 0 _ rfl
  have x44 : w2.cell? ⟨w.heap.size + 1, 44, none⟩ = some (.int .i64 (a.change.kind : Int)) := HCX.out.change 0 _ rfl
  have b45 : w2.cell? ⟨w.heap.size, 45, none⟩ = some (.string ⟨a.change.name.toArray⟩) := HCB.out.change 1 _ rfl
  have x45 : w2.cell? ⟨w.heap.size + 1, 45, none⟩ = some (.string ⟨a.change.name.toArray⟩) := HCX.out.change 1 _ rfl
  have b46 : w2.cell? ⟨w.heap.size, 46, none⟩ = some (.string ⟨a.change.to.toArray⟩) := HCB.out.change 2 _ rfl
  have x46 : w2.cell? ⟨w.heap.size + 1, 46, none⟩ = some (.string ⟨a.change.to.toArray⟩) := HCX.out.change 2 _ rfl
  have b47 : w2.cell? ⟨w.heap.size, 47, none⟩ = some (.string ⟨a.change.col.name.toArray⟩) := HCB.out.change 3 _ rfl
  have x47 : w2.cell? ⟨w.heap.size + 1, 47, none⟩ = some (.string ⟨a.change.col.name.toArray⟩) := HCX.out.change 3 _ rfl
  have b48 : w2.cell? ⟨w.heap.size, 48, none⟩ = some (.int .i64 (a.change.col.kind : Int)) := HCB.out.change 4 _ rfl
  have x48 : w2.cell? ⟨w.heap.size + 1, 48, none⟩ = some (.int .i64 (a.change.col.kind : Int)) := HCX.out.change 4 _ rfl
  have b49 : w2.cell? ⟨w.heap.size, 49, none⟩ = some (.bool a.change.col.nullable) := HCB.out.change 5 _ rfl
  have x49 : w2.cell? ⟨w.heap.size + 1, 49, none⟩ = some (.bool a.change.col.nullable) := HCX.out.change 5 _ rfl
  have b50 : w2.cell? ⟨w.heap.size, 50, none⟩ = some (.int .i64 (a.change.dflt.kind : Int)) := HCB.out.change 6 _ rfl
  have x50 : w2.cell? ⟨w.heap.size + 1, 50, none⟩ = some (.int .i64 (a.change.dflt.kind : Int)) := HCX.out.change 6 _ rfl
  have b51 : w2.cell? ⟨w.heap.size, 51, none⟩ = some (.int .i64 a.change.dflt.int) := HCB.out.change 7 _ rfl
  have x51 : w2.cell? ⟨w.heap.size + 1, 51, none⟩ = some (.int .i64 a.change.dflt.int) := HCX.out.change 7 _ rfl
  have b52 : w2.cell? ⟨w.heap.size, 52, none⟩ = some (.string ⟨a.change.dflt.text.toArray⟩) := HCB.out.change 8 _ rfl
  have x52 : w2.cell? ⟨w.heap.size + 1, 52, none⟩ = some (.string ⟨a.change.dflt.text.toArray⟩) := HCX.out.change 8 _ rfl
  have b53 : w2.cell? ⟨w.heap.size, 53, none⟩ = some (.string ⟨a.hold.name.toArray⟩) := HCB.out.hold 0 _ rfl
  have x53 : w2.cell? ⟨w.heap.size + 1, 53, none⟩ = some (.string ⟨a.hold.name.toArray⟩) := HCX.out.hold 0 _ rfl
  have b54 : w2.cell? ⟨w.heap.size, 54, none⟩ = some (.string ⟨a.hold.table.toArray⟩) := HCB.out.hold 1 _ rfl
  have x54 : w2.cell? ⟨w.heap.size + 1, 54, none⟩ = some (.string ⟨a.hold.table.toArray⟩) := HCX.out.hold 1 _ rfl
  have b55 : w2.cell? ⟨w.heap.size, 55, none⟩ = some (.int .i64 (a.hold.valid.1 : Int)) := HCB.out.hold 2 _ rfl
  have x55 : w2.cell? ⟨w.heap.size + 1, 55, none⟩ = some (.int .i64 (a.hold.valid.1 : Int)) := HCX.out.hold 2 _ rfl
  have b56 : w2.cell? ⟨w.heap.size, 56, none⟩ = some (.int .i64 (a.hold.valid.2 : Int)) := HCB.out.hold 3 _ rfl
  have x56 : w2.cell? ⟨w.heap.size + 1, 56, none⟩ = some (.int .i64 (a.hold.valid.2 : Int)) := HCX.out.hold 3 _ rfl
  have b57 : w2.cell? ⟨w.heap.size, 57, none⟩ = some (.int .i64 (a.hold.system.1 : Int)) := HCB.out.hold 4 _ rfl
  have x57 : w2.cell? ⟨w.heap.size + 1, 57, none⟩ = some (.int .i64 (a.hold.system.1 : Int)) := HCX.out.hold 4 _ rfl
  have b58 : w2.cell? ⟨w.heap.size, 58, none⟩ = some (.int .i64 (a.hold.system.2 : Int)) := HCB.out.hold 5 _ rfl
  have x58 : w2.cell? ⟨w.heap.size + 1, 58, none⟩ = some (.int .i64 (a.hold.system.2 : Int)) := HCX.out.hold 5 _ rfl
  clear hw1 hw2 hz1 h12
  have hz2 : w.heap.size + 2 ≤ w2.heap.size := by omega
  go_upto_region 3 with (fail)
  clear b0 x0 b1 x1 b2 x2 b3 x3 b27 x27 b30 x30 b59 x59 b44 x44 b45 x45 b46 x46 b47 x47 b48 x48 b49 x49 b50 x50 b51 x51 b52 x52 b53 x53 b54 x54 b55 x55 b56 x56 b57 x57 b58 x58
  go_wp2_with (first | (refine wpList_load_mid rfl 40 (.tmp 59) rfl w.heap.size 4 rfl qs _ HCB.out.query Tryz.underlying40 rfl (by rw [HQL.out]; kernel_rfl) ?_) | (refine wpList_load_mid rfl 40 (.tmp 61) rfl (w.heap.size + 1) 4 rfl ps _ HCX.out.query Tryz.underlying40 rfl (by rw [HPL.out]; kernel_rfl) ?_))
  refine (sameQ_call _ a.query (Nat.le_refl _) _ _ w2 F G HS.out.query HT.out.query).mono ?_
  rintro e' w3 ⟨rfl, hw3⟩
  replace hbl := hbl.trans (hw3.mono hbl.size)
  replace HS := Lib.hid (HS.out.below hw3)
  replace HT := Lib.hid (HT.out.below hw3)
  replace HRS := Lib.hid (goodStm.below HRS.out hw3)
  replace HRT := Lib.hid (goodStm.below HRT.out hw3)
  replace hB := hB.below hw3
  replace hX := hX.below hw3
  replace HCB := Lib.hid (TCells.mk' hB HQL.out HEL.out)
  replace HCX := Lib.hid (TCells.mk' hX HPL.out HFL.out)
  have hsw3 : w.heap.size + 2 ≤ w3.heap.size := by have := hw3.size; omega
  clear hw3
  go_wp2_with (first | (refine op_met rfl (wpList_load_mid rfl 57 (.tmp 2) rfl w.heap.size 0 rfl (stmCells a qs (.slice AR a.rows.length cR) (.slice AS a.sets.length cS) es vc vk vf vh) _ hB.all Tryz.underlying57 rfl (by rw [HLS.out]; kernel_rfl) ?_)) | (refine op_met rfl (wpList_load_mid rfl 57 (.tmp 3) rfl (w.heap.size + 1) 0 rfl (stmCells a ps (.slice BR a.rows.length dR) (.slice BS a.sets.length dS) fs uc uk uf uh) _ hX.all Tryz.underlying57 rfl (by rw [HLT.out]; kernel_rfl) ?_)))
  refine (sameLists_call a _ _ w3 F G HRS.out HRT.out).mono ?_
  rintro e' w4 ⟨rfl, hw4⟩
  replace hbl := hbl.trans (hw4.mono hbl.size)
  replace HS := Lib.hid (HS.out.below hw4)
  replace HT := Lib.hid (HT.out.below hw4)
  replace HRS := Lib.hid (goodStm.below HRS.out hw4)
  replace HRT := Lib.hid (goodStm.below HRT.out hw4)
  replace hB := hB.below hw4
  replace hX := hX.below hw4
  replace HCB := Lib.hid (TCells.mk' hB HQL.out HEL.out)
  replace HCX := Lib.hid (TCells.mk' hX HPL.out HFL.out)
  have hsw4 : w.heap.size + 2 ≤ w4.heap.size := by have := hw4.size; omega
  clear hw4
  go_wp2_with (first | (refine op_met rfl (wpList_load_mid rfl 34 (.tmp 70) rfl w.heap.size 31 rfl es _ HCB.out.cond Tryz.underlying34 rfl (by rw [HEL.out]; kernel_rfl) ?_)) | (refine op_met rfl (wpList_load_mid rfl 34 (.tmp 72) rfl (w.heap.size + 1) 31 rfl fs _ HCX.out.cond Tryz.underlying34 rfl (by rw [HFL.out]; kernel_rfl) ?_)))
  refine (sameE HS.out.cond HT.out.cond).mono ?_
  rintro e' w5 ⟨rfl, hw5⟩
  replace hbl := hbl.trans (hw5.mono hbl.size)
  replace HS := Lib.hid (HS.out.below hw5)
  replace HT := Lib.hid (HT.out.below hw5)
  replace HRS := Lib.hid (goodStm.below HRS.out hw5)
  replace HRT := Lib.hid (goodStm.below HRT.out hw5)
  replace hB := hB.below hw5
  replace hX := hX.below hw5
  replace HCB := Lib.hid (TCells.mk' hB HQL.out HEL.out)
  replace HCX := Lib.hid (TCells.mk' hX HPL.out HFL.out)
  have hsw5 : w.heap.size + 2 ≤ w5.heap.size := by have := hw5.size; omega
  clear hw5
  go_wp2_with (first | (refine op_met rfl (wpList_load_mid rfl 47 (.tmp 77) rfl w.heap.size 38 rfl (tblCells a.table vc vk vf) _ HCB.out.table Tryz.underlying47 rfl (by kernel_rfl) ?_)) | (refine op_met rfl (wpList_load_mid rfl 47 (.tmp 79) rfl (w.heap.size + 1) 38 rfl (tblCells a.table uc uk uf) _ HCX.out.table Tryz.underlying47 rfl (by kernel_rfl) ?_)))
  refine (sameTbl_call a.table vc vk vf uc uk uf w5 F G HS.out.table HT.out.table).mono ?_
  rintro e' w6 ⟨rfl, hw6⟩
  have HB := Lib.hid (hbl.trans (hw6.mono hbl.size))
  clear hbl hw6
  go_wp2_with fail
  go_ret
  exact ⟨rfl, HB.out⟩
end Go.Proofs.YtpmncgbpbcgfaaaGreatDoor
