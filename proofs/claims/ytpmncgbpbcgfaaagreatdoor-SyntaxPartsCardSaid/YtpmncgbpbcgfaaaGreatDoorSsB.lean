import Derived.Test.YtpmncgbpbcgfaaaGreatDoorSsA
import Derived.Test.YtpmncgbpbcgfaaaGreatDoorSxV
/-
  The reference's look for expressions that are too deep: queries.
-/
namespace Go.Proofs.YtpmncgbpbcgfaaaGreatDoor
open Go.RowKit
set_option linter.unusedVariables false
set_option linter.unusedSimpArgs false

theorem range_left {w : World} {g k : Nat} {cs ds : List Value} (h : w.rangeAt g k (cs ++ ds)) : w.rangeAt g k cs := by
  intro j v hj
  exact h j v (by rw [List.getElem?_append_left (List.getElem?_eq_some_iff.1 hj).1]; exact hj)
theorem range_right {w : World} {g k : Nat} {cs ds : List Value} (h : w.rangeAt g k (cs ++ ds)) : w.rangeAt g (k + cs.length) ds := by
  intro j v hj
  have := h (cs.length + j) v (by rw [List.getElem?_append_right (by omega), Nat.add_sub_cancel_left]; exact hj)
  rw [← Nat.add_assoc] at this
  exact this
theorem LRep.below {α : Type} {size : Nat} {rep : Rep α} {w w' : World} {F : Nat → Prop} {l : List α} {v : Value} (h : LRep size rep w F l v) (G : Good rep size) (hb : Below w.heap.size w w') : LRep size rep w' F l v := h.kept G fun b _ hl => hb.block b hl
def selZ : List Value := selCells Sel.zero (.slice none 0 0) (.slice none 0 0) (.slice none 0 0) zeroE7
set_option maxHeartbeats 8000000 in
set_option maxRecDepth 100000 in
theorem deepQuery_call : ∀ (n : Nat) (q : Qry), QOk q → Qry.dep q ≤ n → ∀ (cs : List Value) (w : World) (F : Nat → Prop), QRep w F q cs →
    Calls Tryz.prog 25 #[.agg cs.toArray] w fun e' w' => e' = .returned (.bool false) ∧ Below w.heap.size w w'
  | 0, q, _, h => absurd (qdep_pos q) (by omega)
  | n + 1, .mk op all s l o lim, hok, h => by
    intro cs w F h1
    have HI := Lib.hid (deepQuery_call n)
    have hdl : Qry.depL l ≤ n := by simp only [Qry.dep] at h; omega
    have HDX : Hid (∀ k (hk : k < l.length), Qry.dep l[k] ≤ n) := Lib.hid (fun k hk => Nat.le_trans (qdepL_at l k hk) hdl)
    have hok2 : SelOk s ∧ (∀ a ∈ l, QOk a) := by cases hok with | mk a b c => exact ⟨a, b⟩
    have HSO := Lib.hid hok2.1
    have HOK := Lib.hid hok2.2
    obtain ⟨ss, va, vo, rfl, hs, hl, ho⟩ := qrep_iff.1 h1
    obtain ⟨vi, vj, vg, es, hsel, rfl⟩ := hs
    obtain ⟨A, c, rfl⟩ := hl.form
    have hlen := hl.len_le
    obtain ⟨AI, cI, rfl⟩ := hsel.items.form
    have hlenI := hsel.items.len_le
    obtain ⟨AJ, cJ, rfl⟩ := hsel.joins.form
    have hlenJ := hsel.joins.len_le
    unfold maxLen at hlen hlenI hlenJ
    have HL := Lib.hid hl
    have HS := Lib.hid hsel
    have HEL := Lib.hid hsel.cond.len
    have HSL : Hid ((selCells s (.slice AI s.items.length cI) (.slice AJ s.joins.length cJ) vg es).length = 18) := Lib.hid (by simp [selCells, srcCells, hsel.cond.len])
    have HS1 : Hid (∀ u ∈ selCells s (.slice AI s.items.length cI) (.slice AJ s.joins.length cJ) vg es, u.oneCell' = true) := Lib.hid (goodSel.one ⟨_, _, _, _, hsel, rfl⟩)
    clear h h1 hl hok hok2 hsel ho hdl
    go_enter Tryz.func25, Tryz.ntmps25
    go_wp2_with (refine box_new rfl 40 (.tmp 0) rfl (qCells op all (selCells s (.slice AI s.items.length cI) (.slice AJ s.joins.length cJ) vg es) (.slice A l.length c) vo lim) rfl ?_)
    intro w1 hB hw1 hz1
    replace HL := Lib.hid (HL.out.kept goodQ fun b _ hl => hw1.block b hl)
    replace HS : Hid (SelIs w1 F s (.slice AI s.items.length cI) (.slice AJ s.joins.length cJ) vg es) := Lib.hid ⟨HS.out.items.kept goodItem fun b _ hl => hw1.block b hl, HS.out.joins.kept goodJn fun b _ hl => hw1.block b hl, goodE.kept HS.out.cond fun b _ hl => hw1.block b hl, HS.out.group.kept goodE fun b _ hl => hw1.block b hl⟩
    go_wp2_with fail
    go_loopw [3] (fun c3 wr => ∃ k, LoopAt w1 l.length k c3 wr) (fun c3 _ => l.length - (intOf c3).toNat)
    case atStart => exact ⟨0, ⟨Nat.zero_le _, rfl, Below.refl _ _⟩⟩
    case round =>
      obtain ⟨k, ⟨hk, rfl, hb⟩⟩ := hrel
      have HC := Lib.hid (QCells.mk' (hB.below hb) HSL.out)
      have b6 := HC.out.args
      by_cases hlt : k < l.length
      · have HOx := Lib.hid (HOK.out l[k] (List.getElem_mem hlt))
        have HDk := Lib.hid (HDX.out k hlt)
        obtain ⟨g, us, he⟩ := HL.out.at_ hlt
        obtain rfl := he.addr
        replace he := he.below goodQ (hb.mono (Nat.le_refl _))
        have HE := Lib.hid he.rep
        have HU := Lib.hid (goodQ.len he.rep)
        have HR := Lib.hid (he.range goodQ)
        have c2 : (k : Int) < (l.length : Int) := by omega
        have c3 : (0 : Int) ≤ (k : Int) := by omega
        have d1 : decide ((k : Int) < (l.length : Int)) = true := decide_eq_true c2
        clear he
        generalize l[k] = x at HE HOx HDk
        go_wp2_with (refine wpList_load_mid rfl 40 (.tmp 17) rfl g (k * 23) rfl us _ HR.out Tryz.underlying40 rfl (by rw [HU.out]; kernel_rfl) ?_)
        have hc := HI.out x HOx.out HDk.out _ wr F HE.out
        refine hc.mono ?_
        rintro e' w4 ⟨rfl, hw4⟩
        have hb4 := hb.trans (hw4.mono hb.size)
        clear hc hb hw4 b6 HE HR
        go_wp2_with fail
        go_roundw
        case rel => exact ⟨k + 1, ⟨by omega, by go_num, hb4⟩⟩
        case measure => simp [intOf]; omega
      · obtain rfl : k = l.length := by omega
        have d1 : decide ((l.length : Int) < (l.length : Int)) = false := decide_eq_false (by omega)
        go_wp2_with (first | (refine wpList_load_mid rfl 36 (.tmp 20) rfl w.heap.size 2 rfl (selCells s (.slice AI s.items.length cI) (.slice AJ s.joins.length cJ) vg es) _ HC.out.sel Tryz.underlying36 rfl (by rw [HSL.out]; kernel_rfl) ?_) | (refine store_new rfl 36 (.tmp 4) (.tmp 21) rfl (selCells s (.slice AI s.items.length cI) (.slice AJ s.joins.length cJ) vg es) rfl rfl 36 selZ (by rw [HSL.out]; kernel_rfl) (by rw [HSL.out]; rfl) HS1.out ?_))
        intro w5 hS hw5 hz5
        have hb5 : Below w1.heap.size w1 w5 := hb.trans (hw5.mono hb.size)
        have hr5 := hb.size
        clear HC b6 d1 HL HI HDX HOK hB hw5 hb
        replace HS : Hid (SelIs w5 F s (.slice AI s.items.length cI) (.slice AJ s.joins.length cJ) vg es) := Lib.hid ⟨HS.out.items.kept goodItem fun b _ hl => hb5.block b hl, HS.out.joins.kept goodJn fun b _ hl => hb5.block b hl, goodE.kept HS.out.cond fun b _ hl => hb5.block b hl, HS.out.group.kept goodE fun b _ hl => hb5.block b hl⟩
        have hbl : Below w.heap.size w w5 := hw1.trans (hb5.mono hw1.size)
        generalize wr.heap.size = gs at hS hz5 hr5 ⊢
        have hgs5 : gs < w5.heap.size := by omega
        clear hb5 hz1 hw1 hz5 hr5
        go_wp2_with fail
        go_loopw [5] (fun c5 wr => ∃ k, LoopAt w5 s.items.length k c5 wr) (fun c5 _ => s.items.length - (intOf c5).toNat)
        case atStart => exact ⟨0, ⟨Nat.zero_le _, rfl, Below.refl _ _⟩⟩
        case round =>
          obtain ⟨k, ⟨hk, rfl, hb⟩⟩ := hrel
          have HC := Lib.hid (SCells.mk' (hS.below hb) HEL.out)
          have b6 := HC.out.items
          by_cases hlt : k < s.items.length
          · have hdx : E.dep s.items[k].expr ≤ 24 := HSO.out.items _ (List.getElem_mem hlt)
            obtain ⟨g, us, he⟩ := HS.out.items.at_ hlt
            obtain rfl := he.addr
            replace he := he.below goodItem (hb.mono (Nat.le_refl _))
            have hrg := he.range goodItem
            obtain ⟨xs, hx, rfl⟩ := he.rep
            have HE := Lib.hid hx
            have HU := Lib.hid hx.len
            have HR := Lib.hid (range_left hrg)
            have c2 : (k : Int) < (s.items.length : Int) := by omega
            have c3 : (0 : Int) ≤ (k : Int) := by omega
            have d1 : decide ((k : Int) < (s.items.length : Int)) = true := decide_eq_true c2
            clear he hrg hx
            generalize s.items[k].expr = x at HE hdx
            go_wp2_with (first | (refine wpList_load_mid rfl 34 (.tmp 33) rfl g (k * 10) rfl xs _ HR.out Tryz.underlying34 rfl (by rw [HU.out]; kernel_rfl) ?_) | (refine build_one rfl 32 34 34 rfl 7 xs rfl Tryz.underlying32 (by kernel_rfl) (by kernel_rfl) (by omega) (by omega) HU.out ?_))
            intro w7 hN hw7 hz7
            have hb7 := hb.trans (hw7.mono hb.size)
            have HLx := Lib.hid (LRep.single (k := 1) goodE hN (goodE.mono (F' := fun _ => True) (goodE.below HE.out hw7) fun _ _ _ => trivial) trivial)
            clear hb hw7 hz7 hN HR b6 HE HC
            go_wp2_with fail
            refine (deep_call [x] (fun e he => by rw [List.mem_singleton.1 he]; exact hdx) _ w7 _ HLx.out).mono ?_
            rintro e' w8 ⟨rfl, hw8⟩
            have hb8 := hb7.trans (hw8.mono hb7.size)
            clear hb7 hw8 HLx
            go_wp2_with fail
            go_roundw
            case rel => exact ⟨k + 1, ⟨by omega, by go_num, hb8⟩⟩
            case measure => simp [intOf]; omega
          · obtain rfl : k = s.items.length := by omega
            have d1 : decide ((s.items.length : Int) < (s.items.length : Int)) = false := decide_eq_false (by omega)
            replace hS := hS.below hb
            replace HS : Hid (SelIs wr F s (.slice AI s.items.length cI) (.slice AJ s.joins.length cJ) vg es) := Lib.hid ⟨HS.out.items.below goodItem hb, HS.out.joins.below goodJn hb, goodE.below HS.out.cond hb, HS.out.group.below goodE hb⟩
            replace hbl := hbl.trans (hb.mono (by have := hbl.size; omega))
            replace hgs5 : gs < wr.heap.size := Nat.lt_of_lt_of_le hgs5 hb.size
            clear hb
            rename_i wq
            go_wp2_with fail
            clear b6 d1
            generalize hwq : (wr : World) = w9 at hS HS hbl hgs5 HC ⊢
            clear hwq HC
            go_loopw [6] (fun c6 wr => ∃ k, LoopAt w9 s.joins.length k c6 wr) (fun c6 _ => s.joins.length - (intOf c6).toNat)
            case atStart => exact ⟨0, ⟨Nat.zero_le _, rfl, Below.refl _ _⟩⟩
            case round =>
              obtain ⟨k, ⟨hk, rfl, hb⟩⟩ := hrel
              have HC := Lib.hid (SCells.mk' (hS.below hb) HEL.out)
              have b6 := HC.out.joins
              by_cases hlt : k < s.joins.length
              · have hdx : E.dep s.joins[k].on ≤ 24 := HSO.out.joins _ (List.getElem_mem hlt)
                obtain ⟨g, us, he⟩ := HS.out.joins.at_ hlt
                obtain rfl := he.addr
                replace he := he.below goodJn (hb.mono (Nat.le_refl _))
                have hrg := he.range goodJn
                obtain ⟨xs, hx, rfl⟩ := he.rep
                have HE := Lib.hid hx
                have HU := Lib.hid hx.len
                rw [← List.append_assoc] at hrg
                have HR : Hid (wr.rangeAt g (k * 14 + 7) xs) := Lib.hid (range_right hrg)
                have c2 : (k : Int) < (s.joins.length : Int) := by omega
                have c3 : (0 : Int) ≤ (k : Int) := by omega
                have d1 : decide ((k : Int) < (s.joins.length : Int)) = true := decide_eq_true c2
                clear he hrg hx
                generalize s.joins[k].on = x at HE hdx
                go_wp2_with (first | (refine wpList_load_mid rfl 34 (.tmp 48) rfl g (k * 14 + 7) rfl xs _ HR.out Tryz.underlying34 rfl (by rw [HU.out]; kernel_rfl) ?_) | (refine build_one rfl 32 34 49 rfl 7 xs rfl Tryz.underlying32 (by kernel_rfl) (by kernel_rfl) (by omega) (by omega) HU.out ?_))
                intro w7 hN hw7 hz7
                have hb7 := hb.trans (hw7.mono hb.size)
                have HLx := Lib.hid (LRep.single (k := 1) goodE hN (goodE.mono (F' := fun _ => True) (goodE.below HE.out hw7) fun _ _ _ => trivial) trivial)
                clear hb hw7 hz7 hN HR b6 HE HC
                go_wp2_with fail
                refine (deep_call [x] (fun e he => by rw [List.mem_singleton.1 he]; exact hdx) _ w7 _ HLx.out).mono ?_
                rintro e' w8 ⟨rfl, hw8⟩
                have hb8 := hb7.trans (hw8.mono hb7.size)
                clear hb7 hw8 HLx
                go_wp2_with fail
                go_roundw
                case rel => exact ⟨k + 1, ⟨by omega, by go_num, hb8⟩⟩
                case measure => simp [intOf]; omega
              · obtain rfl : k = s.joins.length := by omega
                have d1 : decide ((s.joins.length : Int) < (s.joins.length : Int)) = false := decide_eq_false (by omega)
                have HEc := Lib.hid (goodE.below HS.out.cond hb)
                have HGc := Lib.hid (HS.out.group.below goodE hb)
                have hcond := HSO.out.cond
                have hgroup := HSO.out.group
                have HHG := Lib.hid hgroup
                replace hbl := hbl.trans (hb.mono hbl.size)
                have hgr : gs < wr.heap.size := Nat.lt_of_lt_of_le hgs5 hb.size
                have hS' := hS.below hb
                clear hb hS HS hgroup
                go_wp2_with (first | (refine wpList_load_mid rfl 34 (.tmp 52) rfl gs 10 rfl es _ HC.out.cond Tryz.underlying34 rfl (by rw [HEL.out]; kernel_rfl) ?_) | (refine build_one rfl 32 34 53 rfl 7 es rfl Tryz.underlying32 (by kernel_rfl) (by kernel_rfl) (by omega) (by omega) HEL.out ?_))
                intro w7 hN hw7 hz7
                have HLx := Lib.hid (LRep.single (k := 1) goodE hN (goodE.mono (F' := fun _ => True) (goodE.below HEc.out hw7) fun _ _ _ => trivial) trivial)
                have hbl7 := hbl.trans (hw7.mono hbl.size)
                have hS7 := hS'.below hw7
                have HG7 := Lib.hid (HGc.out.below goodE hw7)
                clear hw7 hz7 hN b6 HEc HC hbl HGc hS'
                go_wp2_with fail
                refine (deep_call [s.cond] (fun e he => by rw [List.mem_singleton.1 he]; exact hcond) _ w7 _ HLx.out).mono ?_
                rintro e' w8 ⟨rfl, hw8⟩
                have hbl8 := hbl7.trans (hw8.mono hbl7.size)
                have HG8 := Lib.hid (HG7.out.below goodE hw8)
                have b7 := (SCells.mk' (hS7.below hw8) HEL.out).group
                clear hbl7 hw8 HLx HG7 hS7
                go_wp2_with fail
                refine (deep_call s.groupBy HHG.out _ w8 _ HG8.out).mono ?_
                rintro e' w9 ⟨rfl, hw9⟩
                have hbl9 := hbl8.trans (hw9.mono hbl8.size)
                clear hbl8 hw9 HG8 b7
                go_wp2_with fail
                go_ret
                exact ⟨rfl, hbl9⟩
end Go.Proofs.YtpmncgbpbcgfaaaGreatDoor

/-
  The reference's look for what is too deep in a statement.
-/
namespace Go.Proofs.YtpmncgbpbcgfaaaGreatDoor
open Go.RowKit
set_option linter.unusedVariables false
set_option linter.unusedSimpArgs false

theorem StmIs.below {w w' : World} {F : Nat → Prop} {a : Stm} {qs : List Value} {vr vs : Value} {es : List Value} {vc vk vf vh : Value} (h : StmIs w F a qs vr vs es vc vk vf vh) (hb : Below w.heap.size w w') : StmIs w' F a qs vr vs es vc vk vf vh := h.kept fun b _ hl => hb.block b hl
set_option maxHeartbeats 8000000 in
set_option maxRecDepth 100000 in
theorem DeepT_call (a : Stm) (hok : StmOk a) (cs : List Value) (w : World) (F : Nat → Prop) (h1 : StmRep w F a cs) :
    Calls Tryz.prog 11 #[.agg cs.toArray] w fun e' w' => e' = .returned (.bool false) ∧ Below w.heap.size w w' := by
  obtain ⟨qs, vr, vs, es, vc, vk, vf, vh, hi, rfl⟩ := h1
  obtain ⟨AR, cR, rfl⟩ := hi.rows.form
  have hlenR := hi.rows.len_le
  obtain ⟨AS, cS, rfl⟩ := hi.sets.form
  have hlenS := hi.sets.len_le
  unfold maxLen at hlenR hlenS
  have HS := Lib.hid hi
  have HQL := Lib.hid (goodQ.len hi.query)
  have HEL := Lib.hid hi.cond.len
  have HOK := Lib.hid hok
  clear hi hok
  go_enter Tryz.func11, Tryz.ntmps11
  go_wp2_with (refine box_new rfl 57 (.tmp 0) rfl (stmCells a qs (.slice AR a.rows.length cR) (.slice AS a.sets.length cS) es vc vk vf vh) rfl ?_)
  intro w1 hB hw1 hz1
  replace HS := Lib.hid (HS.out.below hw1)
  have HC := Lib.hid (TCells.mk' hB HQL.out HEL.out)
  go_wp2_with (refine wpList_load_mid rfl 40 (.tmp 5) rfl w.heap.size 4 rfl qs _ HC.out.query Tryz.underlying40 rfl (by rw [HQL.out]; kernel_rfl) ?_)
  refine (depthQ_call 24 (by omega) a.query HOK.out.query.1 HOK.out.query.2 _ w1 F HS.out.query).mono ?_
  rintro e' w2 ⟨rfl, hw2⟩
  have hdq : Qry.dep a.query ≤ 24 := HOK.out.query.2
  generalize Qry.dep a.query = dq at hdq
  have d1 : decide ((24 : Int) < (dq : Int)) = false := decide_eq_false (by omega)
  replace hw1 := hw1.trans (hw2.mono hw1.size)
  replace hB := hB.below hw2
  replace HS := Lib.hid (HS.out.below hw2)
  replace HC := Lib.hid (TCells.mk' hB HQL.out HEL.out)
  clear hw2 hz1
  go_wp2_with (refine op_met rfl (wpList_load_mid rfl 40 (.tmp 10) rfl w.heap.size 4 rfl qs _ HC.out.query Tryz.underlying40 rfl (by rw [HQL.out]; kernel_rfl) ?_))
  refine (deepQuery_call _ a.query HOK.out.query.1 (Nat.le_refl _) _ w2 F HS.out.query).mono ?_
  rintro e' w3 ⟨rfl, hw3⟩
  replace hw1 := hw1.trans (hw3.mono hw1.size)
  replace hB := hB.below hw3
  replace HS := Lib.hid (HS.out.below hw3)
  replace HC := Lib.hid (TCells.mk' hB HQL.out HEL.out)
  clear hw3
  go_wp2_with (first | (refine op_met rfl (wpList_load_mid rfl 34 (.tmp 15) rfl w.heap.size 31 rfl es _ HC.out.cond Tryz.underlying34 rfl (by rw [HEL.out]; kernel_rfl) ?_)) | (refine op_met rfl (build_one rfl 32 34 16 rfl 7 es rfl Tryz.underlying32 (by kernel_rfl) (by kernel_rfl) (by omega) (by omega) HEL.out ?_)))
  intro w4 hN hw4 hz4
  have HLx := Lib.hid (LRep.single (k := 1) goodE hN (goodE.mono (F' := fun _ => True) (goodE.below HS.out.cond hw4) fun _ _ _ => trivial) trivial)
  replace hw1 := hw1.trans (hw4.mono hw1.size)
  replace hB := hB.below hw4
  replace HS := Lib.hid (HS.out.below hw4)
  clear hw4 hz4 hN HC
  go_wp2_with fail
  refine (deep_call [a.cond] (fun e he => by rw [List.mem_singleton.1 he]; exact HOK.out.cond) _ w4 _ HLx.out).mono ?_
  rintro e' w5 ⟨rfl, hw5⟩
  replace hw1 := hw1.trans (hw5.mono hw1.size)
  replace hB := hB.below hw5
  replace HS := Lib.hid (HS.out.below hw5)
  have b43 := (TCells.mk' hB HQL.out HEL.out).checks
  clear hw5 HLx
  go_wp2_with fail
  refine (deep_call a.checks HOK.out.checks _ w5 _ HS.out.checks).mono ?_
  rintro e' w6 ⟨rfl, hw6⟩
  replace hw1 := hw1.trans (hw6.mono hw1.size)
  replace hB := hB.below hw6
  replace HS := Lib.hid (HS.out.below hw6)
  clear hw6 b43
  have b42 := (TCells.mk' hB HQL.out HEL.out).tchecks
  go_wp2_with fail
  refine (deep_call [] (fun e he => by cases he) _ w6 F (.inl ⟨rfl, rfl⟩)).mono ?_
  rintro e' w7 ⟨rfl, hw7⟩
  replace hw1 := hw1.trans (hw7.mono hw1.size)
  replace hB := hB.below hw7
  replace HS := Lib.hid (HS.out.below hw7)
  have hlt7 := hB.lt
  clear hw7 b42
  go_wp2_with fail
  go_loopw [3] (fun c3 wr => ∃ k, LoopAt w7 a.rows.length k c3 wr) (fun c3 _ => a.rows.length - (intOf c3).toNat)
  case atStart => exact ⟨0, ⟨Nat.zero_le _, rfl, Below.refl _ _⟩⟩
  case round =>
    obtain ⟨k, ⟨hk, rfl, hb⟩⟩ := hrel
    have b6 := (TCells.mk' (hB.below hb) HQL.out HEL.out).rows
    by_cases hlt : k < a.rows.length
    · have HDx := Lib.hid (HOK.out.rows a.rows[k] (List.getElem_mem hlt))
      obtain ⟨g, us, he⟩ := HS.out.rows.at_ hlt
      obtain rfl := he.addr
      replace he := he.below goodRow (hb.mono (Nat.le_refl _))
      obtain ⟨v, hv, rfl⟩ := he.rep
      have r0 := he.cell 0 (by omega)
      simp only [List.getElem?_cons_zero, Nat.add_zero, Nat.mul_one] at r0
      have HV := Lib.hid hv
      have c2 : (k : Int) < (a.rows.length : Int) := by omega
      have c3 : (0 : Int) ≤ (k : Int) := by omega
      have d1 : decide ((k : Int) < (a.rows.length : Int)) = true := decide_eq_true c2
      clear he hv
      generalize a.rows[k] = x at HV HDx
      go_wp2_with fail
      refine (deep_call x HDx.out _ wr _ HV.out).mono ?_
      rintro e' w8 ⟨rfl, hw8⟩
      have hb8 := hb.trans (hw8.mono hb.size)
      clear hb hw8 HV b6 r0
      go_wp2_with fail
      go_roundw
      case rel => exact ⟨k + 1, ⟨by omega, by go_num, hb8⟩⟩
      case measure => simp [intOf]; omega
    · obtain rfl : k = a.rows.length := by omega
      have d1 : decide ((a.rows.length : Int) < (a.rows.length : Int)) = false := decide_eq_false (by omega)
      replace hB := hB.below hb
      replace HS := Lib.hid (HS.out.below hb)
      replace hw1 := hw1.trans (hb.mono hw1.size)
      replace hlt7 := hB.lt
      clear hb
      go_wp2_with fail
      clear b6 d1
      generalize hwq : (wr : World) = w9 at hB HS hw1 hlt7 ⊢
      clear hwq
      go_loopw [4] (fun c4 wr => ∃ k, LoopAt w9 a.sets.length k c4 wr) (fun c4 _ => a.sets.length - (intOf c4).toNat)
      case atStart => exact ⟨0, ⟨Nat.zero_le _, rfl, Below.refl _ _⟩⟩
      case round =>
        obtain ⟨k, ⟨hk, rfl, hb⟩⟩ := hrel
        have b6 := (TCells.mk' (hB.below hb) HQL.out HEL.out).sets
        by_cases hlt : k < a.sets.length
        · have hdx : E.dep a.sets[k].2 ≤ 24 := HOK.out.sets _ (List.getElem_mem hlt)
          obtain ⟨g, us, he⟩ := HS.out.sets.at_ hlt
          obtain rfl := he.addr
          replace he := he.below goodSet (hb.mono (Nat.le_refl _))
          have hrg := he.range goodSet
          obtain ⟨xs, hx, rfl⟩ := he.rep
          have HE := Lib.hid hx
          have HU := Lib.hid hx.len
          have HR : Hid (wr.rangeAt g (k * 8 + 1) xs) := Lib.hid (range_right (cs := [_]) hrg)
          have c2 : (k : Int) < (a.sets.length : Int) := by omega
          have c3 : (0 : Int) ≤ (k : Int) := by omega
          have d1 : decide ((k : Int) < (a.sets.length : Int)) = true := decide_eq_true c2
          clear he hrg hx
          generalize a.sets[k].2 = x at HE hdx
          go_wp2_with (first | (refine wpList_load_mid rfl 34 (.tmp 55) rfl g (k * 8 + 1) rfl xs _ HR.out Tryz.underlying34 rfl (by rw [HU.out]; kernel_rfl) ?_) | (refine build_one rfl 32 34 56 rfl 7 xs rfl Tryz.underlying32 (by kernel_rfl) (by kernel_rfl) (by omega) (by omega) HU.out ?_))
          intro w7 hN hw7 hz7
          have hb7 := hb.trans (hw7.mono hb.size)
          have HLx := Lib.hid (LRep.single (k := 1) goodE hN (goodE.mono (F' := fun _ => True) (goodE.below HE.out hw7) fun _ _ _ => trivial) trivial)
          clear hb hw7 hz7 hN HR b6 HE
          go_wp2_with fail
          refine (deep_call [x] (fun e he => by rw [List.mem_singleton.1 he]; exact hdx) _ w7 _ HLx.out).mono ?_
          rintro e' w8 ⟨rfl, hw8⟩
          have hb8 := hb7.trans (hw8.mono hb7.size)
          clear hb7 hw8 HLx
          go_wp2_with fail
          go_roundw
          case rel => exact ⟨k + 1, ⟨by omega, by go_num, hb8⟩⟩
          case measure => simp [intOf]; omega
        · obtain rfl : k = a.sets.length := by omega
          have HB := Lib.hid (hw1.trans (hb.mono hw1.size))
          have d1 : decide ((a.sets.length : Int) < (a.sets.length : Int)) = false := decide_eq_false (by omega)
          clear hb
          go_wp2_with fail
          go_ret
          exact ⟨rfl, HB.out⟩
end Go.Proofs.YtpmncgbpbcgfaaaGreatDoor
