import Derived.Test.YtlimlmjljjmcpaaGreatDoorPxO
import Derived.Test.YtlimlmjljjmcpaaGreatDoorPxV
import Derived.Test.YtlimlmjljjmcpaaGreatDoorPxJoin
import Derived.Laws.OwnMore
import Derived.Test.YtlimlmjljjmcpaaGreatDoorGrA
/-
  The text of an operand and of an expression: the program's functions. (Printed by gen_pxexp.py.)
-/
namespace Go.Proofs.YtlimlmjljjmcpaaGreatDoor.Px
open Go Go.RowKit Go.Proofs.YtlimlmjljjmcpaaGreatDoor.Ps
set_option linter.unusedVariables false
set_option linter.unusedSimpArgs false
theorem valid_short {vk vi : Int} {vs : S} (h : validV vk vi vs = true) : vs.length ≤ 140737488351232 := by
  unfold validV at h
  by_cases h0 : vk = 0
  · rw [if_pos h0] at h
    simp at h
    simp [h.2]
  rw [if_neg h0] at h
  by_cases h1 : vk = 1
  · rw [if_pos h1] at h
    simp at h
    simp [h.1]
  rw [if_neg h1] at h
  by_cases h2 : vk = 2
  · rw [if_pos h2] at h
    simp at h
    omega
  rw [if_neg h2] at h
  by_cases h3 : vk = 3
  · rw [if_pos h3] at h
    simp at h
    simp [h.1]
  rw [if_neg h3] at h
  cases h
theorem per_name {int vk vi : Int} {vs nm : S} (h : restB 26 int vk vi vs nm = true) : nm.length ≤ 24 := by
  have : restB 26 int vk vi vs nm = ((nameB nm && !(boundL int).isEmpty) && nullV vk vi vs) := rfl
  rw [this, Bool.and_eq_true, Bool.and_eq_true] at h
  exact (name_len h.1.1).1
theorem rel_ne {int vk vi : Int} {vs nm : S} (h : restB 25 int vk vi vs nm = true) : relL int ≠ [] := by
  have : restB 25 int vk vi vs nm = (!(relL int).isEmpty && (nm.isEmpty && nullV vk vi vs)) := rfl
  rw [this, Bool.and_eq_true] at h
  intro e
  rw [e] at h
  exact absurd h.1 (by simp)
theorem len2 {l : List X} (h : l.length = 2) : ∃ a b, l = [a, b] := by
  match l, h with
  | [a, b], _ => exact ⟨a, b, rfl⟩
theorem opd_short {op int vk vi : Int} {vs nm : S} {l : List X} {x : X} (hN : nodes (.mk op int vk vi vs nm l) ≤ 1000000) {n : Int} (hp : pOk x = true) (hx : x ∈ l) : (opd n x).length ≤ 1000000000 := by
  have h1 := opd_len n x
  have h2 := (txt_good _ x (Nat.le_refl _) hp).2
  have h3 := nodesL_mem hx
  rw [nodes] at hN
  omega
theorem join_short {op int vk vi : Int} {vs nm : S} {l : List X} (hN : nodes (.mk op int vk vi vs nm l) ≤ 1000000) (hpl : ∀ x ∈ l, pOk x = true) : (Lib.join (l.map txt) [44, 32]).length ≤ 1000000000 := by
  have k1 := lens_opds 0 l fun x hx => (txt_good _ x (Nat.le_refl _) (hpl x hx)).2
  rw [nodes] at hN
  have k2 : (Lib.join (opds 0 l) [44, 32]).length ≤ Lib.lens (opds 0 l) + 2 * l.length := by
    cases l with
    | nil => simp [opds, Lib.join_nil]
    | cons a l =>
      rw [opds, Lib.join_length, opds_len]
      simp
      omega
  rw [opds0] at k1 k2
  omega
theorem args_short {op int vk vi : Int} {vs nm : S} {l : List X} (hN : nodes (.mk op int vk vi vs nm l) ≤ 1000000) : l.length ≤ 1000000 := by
  have := nodesL_len l
  rw [nodes] at hN
  omega
theorem str_eq {a : ByteArray} {s : S} (h : a.data.toList = s) : a = ⟨s.toArray⟩ := bytes_ext (by rw [h])
theorem Ret.str {w w' : World} {a : ByteArray} {s : S} (h : a.data.toList = s) (hb : Below w.heap.size w w') : Ret w (.string ⟨s.toArray⟩) (.returned (.string a)) w' := ⟨by rw [str_eq h], hb⟩
set_option maxRecDepth 100000 in
set_option maxHeartbeats 20000000 in
theorem operand_call (n : Int) {x : X} {cs : List Value} {w : World} (h : XR w x cs) (hlen : (txt x).length ≤ 1099511627776)
    (HI : ∀ w' : World, Below w.heap.size w w' → Calls Tryz.prog 27 #[.agg cs.toArray] w' (Ret w' (.string ⟨(txt x).toArray⟩))) :
    Calls Tryz.prog 67 #[.agg cs.toArray, .int .i64 n] w (Ret w (.string ⟨(opd n x).toArray⟩)) := by
  have HX := Lib.hid h
  have HI := Lib.hid HI
  have HT : Hid (opd n x = paren (decide (level x < n)) (txt x)) := Lib.hid rfl
  have HLV := Lib.hid fun (w' : World) (hw' : Below w.heap.size w w') => level_call (h.kept hw' (Nat.le_refl _))
  generalize level x = lv at HT HLV
  obtain ⟨op, int, vk, vi, vs, nm, l⟩ := x
  generalize txt (.mk op int vk vi vs nm l) = y at HT hlen HI
  obtain ⟨a, m, rfl, hl, hvs, hnm, hl3⟩ := h.lits
  clear h hl
  have y1 : ¬ maxLen < 1 + y.length := by unfold maxLen; omega
  have y2 : ¬ maxLen < 1 + y.length + 1 := by unfold maxLen; omega
  have hsz := mkS y
  go_enter Tryz.func67, Tryz.ntmps67
  go_upto_region 1 with (fail)
  refine name_alloc (K := Code.wp _ _ _ _) fun w1 hB hw1 hz1 => ?_
  have HW := Lib.hid hw1
  have HBk := Lib.hid hB
  have p0 := hB.cell 0 rfl
  have p1 := hB.cell 1 rfl
  have p2 := hB.cell 2 rfl
  have p3 := hB.cell 3 rfl
  have p4 := hB.cell 4 rfl
  have p5 := hB.cell 5 rfl
  have p6 := hB.cell 6 rfl
  clear hB hw1 hz1
  go_wp2_with fail
  refine (HLV.out w1 HW.out).mono ?_
  rintro e w2 ⟨rfl, hw2⟩
  have HB2 := Lib.hid (HBk.out.below hw2)
  have HW2 := Lib.hid (HW.out.trans (hw2.mono HW.out.size))
  clear hw2 HBk HW p0 p1 p2 p3 p4 p5 p6
  have p0 := HB2.out.cell 0 rfl
  have p1 := HB2.out.cell 1 rfl
  have p2 := HB2.out.cell 2 rfl
  have p3 := HB2.out.cell 3 rfl
  have p4 := HB2.out.cell 4 rfl
  have p5 := HB2.out.cell 5 rfl
  have p6 := HB2.out.cell 6 rfl
  have HX2 := Lib.hid (Ret.at_ (HI.out w2 HW2.out) HW2.out)
  by_cases hlt : lv < n
  · have HT2 : Hid (opd n (.mk op int vk vi vs nm l) = 40 :: (y ++ [41])) := Lib.hid (by rw [HT.out, decide_eq_true hlt]; rfl)
    go_wp2_with fail
    refine HX2.out.mono ?_
    rintro e w3 ⟨rfl, hw3⟩
    go_wp2_with fail
    go_ret
    rw [HT2.out]
    exact Ret.str (by simp [ByteArray.data_append]) hw3
  · have HT2 : Hid (opd n (.mk op int vk vi vs nm l) = y) := Lib.hid (by rw [HT.out, decide_eq_false hlt]; rfl)
    go_wp2_with fail
    refine HX2.out.mono ?_
    rintro e w3 ⟨rfl, hw3⟩
    go_wp2_with fail
    go_ret
    rw [HT2.out]
    exact ⟨rfl, hw3⟩
set_option maxRecDepth 100000 in
set_option maxHeartbeats 20000000 in
theorem exp_const (int vk vi : Int) (vs nm : S) (l : List X) (cs : List Value) (w : World) (hp : pOk (.mk 1 int vk vi vs nm l) = true) (hE : Env w) (h : XR w (.mk 1 int vk vi vs nm l) cs)  :
    Calls Tryz.prog 27 #[.agg cs.toArray] w (Ret w (.string ⟨(txt (.mk 1 int vk vi vs nm l)).toArray⟩)) := by
  have HE := Lib.hid hE
  have HGOOD := Lib.hid (txt_good _ _ (Nat.le_refl _) hp)
  obtain ⟨ha, hpl, hr, hrl⟩ := pok_args hp
  obtain ⟨a, m, rfl, hl, hvs, hnm, hlen⟩ := h.lits
  have HL := Lib.hid hl
  have HT : Hid (txt (.mk 1 int vk vi vs nm l) = litL vk vi vs) := Lib.hid (by rw [txt_mk]; rfl)
  have HVS : Hid (vs.length ≤ 140737488351232) := Lib.hid (by have hv : validV vk vi vs = true := (by have : restB 1 int vk vi vs nm = (validV vk vi vs && (decide (int = 0) && nm.isEmpty)) := rfl; rw [this, Bool.and_eq_true] at hr; exact hr.1); exact valid_short hv)
  clear hE h hl hp
  go_enter Tryz.func27, Tryz.ntmps27
  go_upto_region 1 with (fail)
  refine name_alloc (K := Code.wp _ _ _ _) fun w1 hB hw1 hz1 => ?_
  have HW := Lib.hid hw1
  have HBk := Lib.hid hB
  have hE1 := HE.out.below hw1
  have HE1 := Lib.hid hE1
  have p0 := hB.cell 0 rfl
  clear hB hw1 hE1 hz1
  have p2 := HBk.out.cell 2 rfl
  have p3 := HBk.out.cell 3 rfl
  have p4 := HBk.out.cell 4 rfl
  go_wp2_with fail
  refine (literal_call vk vi vs w1 HVS.out HE1.out).mono ?_
  rintro e w2 ⟨rfl, hw2⟩
  have HW2 := Lib.hid (HW.out.trans (hw2.mono HW.out.size))
  clear hw2
  go_wp2_with fail
  go_ret
  rw [HT.out]
  exact ⟨rfl, HW2.out⟩
set_option maxRecDepth 100000 in
set_option maxHeartbeats 20000000 in
theorem exp_name (int vk vi : Int) (vs nm : S) (l : List X) (cs : List Value) (w : World) (hp : pOk (.mk 3 int vk vi vs nm l) = true) (hE : Env w) (h : XR w (.mk 3 int vk vi vs nm l) cs)  :
    Calls Tryz.prog 27 #[.agg cs.toArray] w (Ret w (.string ⟨(txt (.mk 3 int vk vi vs nm l)).toArray⟩)) := by
  have HE := Lib.hid hE
  have HGOOD := Lib.hid (txt_good _ _ (Nat.le_refl _) hp)
  obtain ⟨ha, hpl, hr, hrl⟩ := pok_args hp
  obtain ⟨a, m, rfl, hl, hvs, hnm, hlen⟩ := h.lits
  have HL := Lib.hid hl
  have HT : Hid (txt (.mk 3 int vk vi vs nm l) = nm) := Lib.hid (by rw [txt_mk]; rfl)
  clear hE h hl hp
  go_enter Tryz.func27, Tryz.ntmps27
  go_upto_region 1 with (fail)
  refine name_alloc (K := Code.wp _ _ _ _) fun w1 hB hw1 hz1 => ?_
  have HW := Lib.hid hw1
  have HBk := Lib.hid hB
  have hE1 := HE.out.below hw1
  have HE1 := Lib.hid hE1
  have p0 := hB.cell 0 rfl
  have p5 := hB.cell 5 rfl
  clear hB hw1 hE1 hz1
  go_wp2_with fail
  go_ret
  rw [HT.out]
  exact ⟨rfl, HW.out⟩
set_option maxRecDepth 100000 in
set_option maxHeartbeats 20000000 in
theorem exp_period (int vk vi : Int) (vs nm : S) (l : List X) (cs : List Value) (w : World) (hp : pOk (.mk 26 int vk vi vs nm l) = true) (hE : Env w) (h : XR w (.mk 26 int vk vi vs nm l) cs)  :
    Calls Tryz.prog 27 #[.agg cs.toArray] w (Ret w (.string ⟨(txt (.mk 26 int vk vi vs nm l)).toArray⟩)) := by
  have HE := Lib.hid hE
  have HGOOD := Lib.hid (txt_good _ _ (Nat.le_refl _) hp)
  obtain ⟨ha, hpl, hr, hrl⟩ := pok_args hp
  obtain ⟨a, m, rfl, hl, hvs, hnm, hlen⟩ := h.lits
  have HL := Lib.hid hl
  have HT : Hid (txt (.mk 26 int vk vi vs nm l) = boundL int ++ 40 :: (nm ++ [41])) := Lib.hid (by rw [txt_mk]; rfl)
  have hnl : nm.length ≤ 24 := per_name hr
  have hbl := bound_len int
  have hs1 := mkS nm
  have hs2 := mkS (boundL int)
  clear hE h hl hp
  go_enter Tryz.func27, Tryz.ntmps27
  go_upto_region 1 with (fail)
  refine name_alloc (K := Code.wp _ _ _ _) fun w1 hB hw1 hz1 => ?_
  have HW := Lib.hid hw1
  have HBk := Lib.hid hB
  have hE1 := HE.out.below hw1
  have HE1 := Lib.hid hE1
  have p0 := hB.cell 0 rfl
  clear hB hw1 hE1 hz1
  have HBD := Lib.hid fun w' => bound_call int w'
  generalize boundL int = bb at HT hbl hs2 HBD
  have y1 : ¬ maxLen < bb.length + 1 := by unfold maxLen; omega
  have y2 : ¬ maxLen < bb.length + 1 + nm.length := by unfold maxLen; omega
  have y3 : ¬ maxLen < bb.length + 1 + nm.length + 1 := by unfold maxLen; omega
  go_upto_region 7 with (fail)
  have hb0 : Below w1.heap.size w1 { w1 with drawn := w1.drawn + 1 } := belowD w1 1
  refine Gr.region_grow 8 (by kernel_rfl) (by kernel_rfl) (fun w' => Below w1.heap.size w1 w') hb0 ?_
  simp only [List.take_succ_cons, List.take_zero, List.drop_succ_cons, List.drop_zero]
  clear p0 hb0
  refine Gr.line_step _ (by go_simp; intro w' hw'; go_simp; rw [Gr.grown_value]) ?_
  refine Gr.line_norm fun K hK => ?_; go_simp; refine hK _ ?_; clear hK K
  refine Gr.line_step _ (by go_simp; intro w' hw'; have p1 := (HBk.out.below hw').cell 1 rfl; go_simp; rw [Gr.grown_value]) ?_
  refine Gr.line_norm fun K hK => ?_; go_simp; refine hK _ ?_; clear hK K
  refine Gr.line_step (.string ⟨bb.toArray⟩) (by go_simp; intro w' hw'; go_simp; rw [Gr.grown_enter]; exact Ret.fam (HBD.out w') hw') ?_
  refine Gr.line_norm fun K hK => ?_; go_simp; refine hK _ ?_; clear hK K
  refine Gr.line_step _ (by go_simp; intro w' hw'; go_simp; rw [if_neg (show ¬ 9223372036854775807 < bb.length + 1 by omega), Gr.grown_value]) ?_
  refine Gr.line_norm fun K hK => ?_; go_simp; refine hK _ ?_; clear hK K
  refine Gr.line_step _ (by go_simp; intro w' hw'; go_simp; rw [Gr.grown_value]) ?_
  refine Gr.line_norm fun K hK => ?_; go_simp; refine hK _ ?_; clear hK K
  refine Gr.line_step _ (by go_simp; intro w' hw'; have p5 := (HBk.out.below hw').cell 5 rfl; go_simp; rw [Gr.grown_value]) ?_
  refine Gr.line_norm fun K hK => ?_; go_simp; refine hK _ ?_; clear hK K
  refine Gr.line_step _ (by go_simp; intro w' hw'; go_simp; rw [if_neg (show ¬ 9223372036854775807 < bb.length + 1 + nm.length by omega), Gr.grown_value]) ?_
  refine Gr.line_norm fun K hK => ?_; go_simp; refine hK _ ?_; clear hK K
  refine Gr.line_step _ (by go_simp; intro w' hw'; go_simp; rw [if_neg (show ¬ 9223372036854775807 < bb.length + 1 + nm.length + 1 by omega), Gr.grown_value]) ?_
  refine Gr.line_norm fun K hK => ?_; go_simp; refine hK _ ?_; clear hK K
  refine Gr.line_nil fun w4 hw4 => ?_
  have HW4 := Lib.hid (HW.out.trans (hw4.mono HW.out.size))
  clear hw4
  go_wp2_with fail
  go_ret
  rw [HT.out]
  exact Ret.str (by simp [ByteArray.data_append]) HW4.out
set_option maxRecDepth 100000 in
set_option maxHeartbeats 20000000 in
theorem exp_rel (int vk vi : Int) (vs nm : S) (l : List X) (cs : List Value) (w : World) (hp : pOk (.mk 25 int vk vi vs nm l) = true) (hE : Env w) (h : XR w (.mk 25 int vk vi vs nm l) cs)  :
    Calls Tryz.prog 27 #[.agg cs.toArray] w (Ret w (.string ⟨(txt (.mk 25 int vk vi vs nm l)).toArray⟩)) := by
  have HE := Lib.hid hE
  have HGOOD := Lib.hid (txt_good _ _ (Nat.le_refl _) hp)
  obtain ⟨ha, hpl, hr, hrl⟩ := pok_args hp
  obtain ⟨a, m, rfl, hl, hvs, hnm, hlen⟩ := h.lits
  have HL := Lib.hid hl
  obtain ⟨x0, x1, rfl⟩ := len2 (of_decide_eq_true (show decide (l.length = 2) = true from ha))
  have HT : Hid (txt (.mk 25 int vk vi vs nm [x0, x1]) = x0.nm ++ 32 :: (relL int ++ 32 :: x1.nm)) := Lib.hid (by rw [txt_mk]; rfl)
  have hn0 := name_len (hrl rfl x0 (by simp)).2
  have hn1 := name_len (hrl rfl x1 (by simp)).2
  have hnr := rel_len int
  have HRN : Hid (relL int ≠ []) := Lib.hid (rel_ne hr)
  clear hE h hl hp
  go_enter Tryz.func27, Tryz.ntmps27
  go_upto_region 1 with (fail)
  refine name_alloc (K := Code.wp _ _ _ _) fun w1 hB hw1 hz1 => ?_
  have HW := Lib.hid hw1
  have HBk := Lib.hid hB
  have hE1 := HE.out.below hw1
  have HE1 := Lib.hid hE1
  have p0 := hB.cell 0 rfl
  clear hB hw1 hE1 hz1
  simp only [List.length_cons, List.length_nil, Nat.zero_add] at *
  obtain ⟨g, o, us, eq, hgl, hcell, _, hrx⟩ := HL.out.at_ (k := 0) (by decide)
  subst eq
  obtain ⟨g', o', us', eq', hgl', hcell', _, hrx'⟩ := HL.out.at_ (k := 1) (by decide)
  injection eq' with eq'
  injection eq' with eg eo
  subst eg eo
  obtain ⟨op0, int0, vk0, vi0, vs0, nm0, l0⟩ := x0
  obtain ⟨op1, int1, vk1, vi1, vs1, nm1, l1⟩ := x1
  have hq0 : us[5]? = some (.string ⟨nm0.toArray⟩) := by obtain ⟨_, _, rfl, _⟩ := (show XR w (.mk op0 int0 vk0 vi0 vs0 nm0 l0) us from hrx).lits; rfl
  have hq1 : us'[5]? = some (.string ⟨nm1.toArray⟩) := by obtain ⟨_, _, rfl, _⟩ := (show XR w (.mk op1 int1 vk1 vi1 vs1 nm1 l1) us' from hrx').lits; rfl
  have HC0 := Lib.hid (hcell 5 _ hq0)
  have HC1 := Lib.hid (hcell' 5 _ hq1)
  clear hcell hcell' hrx hrx' hq0 hq1
  have HT : Hid (txt (.mk 25 int vk vi vs nm [.mk op0 int0 vk0 vi0 vs0 nm0 l0, .mk op1 int1 vk1 vi1 vs1 nm1 l1]) = nm0 ++ 32 :: (relL int ++ 32 :: nm1)) := HT
  have hn0 : nm0.length ≤ 24 ∧ nm0 ≠ [] := hn0
  have hn1 : nm1.length ≤ 24 ∧ nm1 ≠ [] := hn1
  have HBD := Lib.hid fun w' => rel_call int w'
  generalize relL int = bb at HT hnr HBD HRN
  go_upto_region 9 with (fail)
  have hb0 : Below w1.heap.size w1 { w1 with drawn := w1.drawn + 1 } := belowD w1 1
  refine Gr.region_grow 13 (by kernel_rfl) (by kernel_rfl) (fun w' => Below w1.heap.size w1 w') hb0 ?_
  simp only [List.take_succ_cons, List.take_zero, List.drop_succ_cons, List.drop_zero]
  clear p0 hb0
  refine Gr.line_step _ (by go_simp; intro w' hw'; go_simp; rw [Gr.grown_value]) ?_
  refine Gr.line_norm fun K hK => ?_; go_simp; refine hK _ ?_; clear hK K
  refine Gr.line_step _ (by go_simp; intro w' hw'; have p6 := (HBk.out.below hw').cell 6 rfl; go_simp; rw [Gr.grown_value]) ?_
  refine Gr.line_norm fun K hK => ?_; go_simp; refine hK _ ?_; clear hK K
  refine Gr.line_step _ (by go_simp; intro w' hw'; go_simp; rw [Gr.grown_value]) ?_
  refine Gr.line_norm fun K hK => ?_; go_simp; refine hK _ ?_; clear hK K
  refine Gr.line_step _ (by go_simp; intro w' hw'; go_simp; rw [Gr.grown_value]) ?_
  refine Gr.line_norm fun K hK => ?_; go_simp; refine hK _ ?_; clear hK K
  refine Gr.line_step _ (by go_simp; intro w' hw'; have q := ((HW.out.trans (hw'.mono HW.out.size)).cell (p := ⟨g, o + 0 * 7 + 5, none⟩) hgl).trans HC0.out; simp only [Nat.zero_mul, Nat.add_zero] at q; go_simp; rw [Gr.grown_value]) ?_
  refine Gr.line_norm fun K hK => ?_; go_simp; refine hK _ ?_; clear hK K
  refine Gr.line_step _ (by go_simp; intro w' hw'; go_simp; rw [Gr.grown_value]) ?_
  refine Gr.line_norm fun K hK => ?_; go_simp; refine hK _ ?_; clear hK K
  refine Gr.line_step _ (by go_simp; intro w' hw'; have p1 := (HBk.out.below hw').cell 1 rfl; go_simp; rw [Gr.grown_value]) ?_
  refine Gr.line_norm fun K hK => ?_; go_simp; refine hK _ ?_; clear hK K
  refine Gr.line_step (.string ⟨bb.toArray⟩) (by go_simp; intro w' hw'; go_simp; rw [Gr.grown_enter]; exact Ret.fam (HBD.out w') hw') ?_
  refine Gr.line_norm fun K hK => ?_; go_simp; refine hK _ ?_; clear hK K
  refine Gr.line_step _ (by go_simp; intro w' hw'; go_simp; rw [Gr.grown_value]) ?_
  refine Gr.line_norm fun K hK => ?_; go_simp; refine hK _ ?_; clear hK K
  refine Gr.line_step _ (by go_simp; intro w' hw'; have p6 := (HBk.out.below hw').cell 6 rfl; go_simp; rw [Gr.grown_value]) ?_
  refine Gr.line_norm fun K hK => ?_; go_simp; refine hK _ ?_; clear hK K
  refine Gr.line_step _ (by go_simp; intro w' hw'; go_simp; rw [Gr.grown_value]) ?_
  refine Gr.line_norm fun K hK => ?_; go_simp; refine hK _ ?_; clear hK K
  refine Gr.line_step _ (by go_simp; intro w' hw'; go_simp; rw [Gr.grown_value]) ?_
  refine Gr.line_norm fun K hK => ?_; go_simp; refine hK _ ?_; clear hK K
  refine Gr.line_step _ (by go_simp; intro w' hw'; have q := ((HW.out.trans (hw'.mono HW.out.size)).cell (p := ⟨g, o + 1 * 7 + 5, none⟩) hgl).trans HC1.out; simp only [Nat.one_mul] at q; go_simp; rw [Gr.grown_value]) ?_
  refine Gr.line_norm fun K hK => ?_; go_simp; refine hK _ ?_; clear hK K
  refine Gr.line_nil fun w4 hw4 => ?_
  have HW4 := Lib.hid (HW.out.trans (hw4.mono HW.out.size))
  clear hw4
  go_wp2_with fail
  refine (join_call [nm0, bb, nm1] (some ⟨w4.heap.size, 0, none⟩) 3 _ (by simp) (fun j s hs => ?_) ?_).mono ?_
  · refine ⟨_, _, rfl, by simp, ?_⟩
    rcases j with _ | _ | _ | j
    · injection hs with hs; subst hs; exact (Blk.new w4 [strV nm0, strV bb, strV nm1] 9).cell 0 rfl
    · injection hs with hs; subst hs; exact (Blk.new w4 [strV nm0, strV bb, strV nm1] 9).cell 1 rfl
    · injection hs with hs; subst hs; exact (Blk.new w4 [strV nm0, strV bb, strV nm1] 9).cell 2 rfl
    · cases hs
  · rw [jl_all (by simp [hn0.2, hn1.2, HRN.out])]
    simp [Lib.join_cons, Lib.joinTail]
    omega
  rintro e w5 ⟨rfl, hw5⟩
  have HW5 := Lib.hid ((HW4.out.trans ((below1 w4 _).mono HW4.out.size)).trans (hw5.mono (Nat.le_trans HW4.out.size (by simp))))
  clear hw5
  have hj : Lib.join (jl [nm0, bb, nm1]) [32] = nm0 ++ 32 :: (bb ++ 32 :: nm1) := by
    rw [jl_all (by simp [hn0.2, hn1.2, HRN.out])]
    simp [Lib.join_cons, Lib.joinTail]
  go_wp2_with fail
  go_ret
  rw [HT.out, ← hj]
  exact ⟨rfl, HW5.out⟩
set_option maxRecDepth 100000 in
set_option maxHeartbeats 20000000 in
theorem exp_isnull (int vk vi : Int) (vs nm : S) (l : List X) (cs : List Value) (w : World) (hp : pOk (.mk 21 int vk vi vs nm l) = true) (hE : Env w) (h : XR w (.mk 21 int vk vi vs nm l) cs) (hN : nodes (.mk 21 int vk vi vs nm l) ≤ 1000000) (HO : ∀ x ∈ l, ∀ (n : Int) (cs : List Value) (w' : World), Below w.heap.size w w' → XR w' x cs → Calls Tryz.prog 67 #[.agg cs.toArray, .int .i64 n] w' (Ret w' (.string ⟨(opd n x).toArray⟩))) :
    Calls Tryz.prog 27 #[.agg cs.toArray] w (Ret w (.string ⟨(txt (.mk 21 int vk vi vs nm l)).toArray⟩)) := by
  have HE := Lib.hid hE
  have HGOOD := Lib.hid (txt_good _ _ (Nat.le_refl _) hp)
  obtain ⟨ha, hpl, hr, hrl⟩ := pok_args hp
  obtain ⟨a, m, rfl, hl, hvs, hnm, hlen⟩ := h.lits
  have HL := Lib.hid hl
  have HO := Lib.hid HO
  obtain ⟨x0, rfl⟩ := len_one (of_decide_eq_true (show decide (l.length = 1) = true from ha))
  have HT : Hid (txt (.mk 21 int vk vi vs nm [x0]) = opd 5 x0 ++ [32, 73, 83, 32, 78, 85, 76, 76]) := Lib.hid (by rw [txt_mk]; rfl)
  have hol : (opd 5 x0).length ≤ 1000000000 := opd_short hN (hpl x0 (by simp)) (by simp)
  have hsz := mkS (opd 5 x0)
  clear hE h hl hp
  go_enter Tryz.func27, Tryz.ntmps27
  go_upto_region 1 with (fail)
  refine name_alloc (K := Code.wp _ _ _ _) fun w1 hB hw1 hz1 => ?_
  have HW := Lib.hid hw1
  have HBk := Lib.hid hB
  have hE1 := HE.out.below hw1
  have HE1 := Lib.hid hE1
  have p0 := hB.cell 0 rfl
  have p6 := hB.cell 6 rfl
  clear hB hw1 hE1 hz1
  simp only [List.length_cons, List.length_nil, Nat.zero_add] at *
  obtain ⟨g, o, us, eq, hgl, hcell, hkx, hrx⟩ := HL.out.at_ (k := 0) (by decide)
  subst eq
  have HX : Hid (XR w x0 us) := Lib.hid hrx
  obtain ⟨eop, eint, evk, evi, evs, enm, el, ee⟩ : ∃ eop eint evk evi evs enm el, x0 = X.mk eop eint evk evi evs enm el := by
    cases x0
    exact ⟨_, _, _, _, _, _, _, rfl⟩
  have hrx2 := hrx
  have hrx2 : XR w (X.mk eop eint evk evi evs enm el) us := ee ▸ hrx
  obtain ⟨ea, em, rfl, _⟩ := hrx2.lits
  have rr : ∀ j (u : Value), ([.int .i64 eop, .int .i64 eint, .int .i64 evk, .int .i64 evi, .string ⟨evs.toArray⟩, .string ⟨enm.toArray⟩, .slice ea el.length em] : List Value)[j]? = some u → w1.cell? ⟨g, o + 0 * 7 + j, none⟩ = some u := fun j u hu => (HW.out.cell (by exact hgl)).trans (hcell j u hu)
  have r0 := rr 0 _ rfl
  have r1 := rr 1 _ rfl
  have r2 := rr 2 _ rfl
  have r3 := rr 3 _ rfl
  have r4 := rr 4 _ rfl
  have r5 := rr 5 _ rfl
  have r6 := rr 6 _ rfl
  simp only [Nat.zero_mul, Nat.add_zero] at r0 r1 r2 r3 r4 r5 r6
  have gl : g < w1.heap.size := by have := HW.out.size; omega
  clear rr hcell ee
  have HO1 := Lib.hid (HO.out x0 (by simp) 5 _ w1 HW.out (HX.out.kept HW.out (Nat.le_refl _)))
  clear hrx hrx2 HO
  generalize opd 5 x0 = y at HT hol HO1 hsz
  have y0 : ¬ maxLen < y.length + 8 := by unfold maxLen; omega
  go_wp2_with fail
  refine HO1.out.mono ?_
  rintro e w2 ⟨rfl, hw2⟩
  have HW2 := Lib.hid (HW.out.trans (hw2.mono HW.out.size))
  clear hw2
  go_wp2_with fail
  go_ret
  rw [HT.out]
  exact Ret.str (by simp [ByteArray.data_append]) HW2.out
set_option maxRecDepth 100000 in
set_option maxHeartbeats 20000000 in
theorem exp_not (int vk vi : Int) (vs nm : S) (l : List X) (cs : List Value) (w : World) (hp : pOk (.mk 4 int vk vi vs nm l) = true) (hE : Env w) (h : XR w (.mk 4 int vk vi vs nm l) cs) (hN : nodes (.mk 4 int vk vi vs nm l) ≤ 1000000) (HO : ∀ x ∈ l, ∀ (n : Int) (cs : List Value) (w' : World), Below w.heap.size w w' → XR w' x cs → Calls Tryz.prog 67 #[.agg cs.toArray, .int .i64 n] w' (Ret w' (.string ⟨(opd n x).toArray⟩))) :
    Calls Tryz.prog 27 #[.agg cs.toArray] w (Ret w (.string ⟨(txt (.mk 4 int vk vi vs nm l)).toArray⟩)) := by
  have HE := Lib.hid hE
  have HGOOD := Lib.hid (txt_good _ _ (Nat.le_refl _) hp)
  obtain ⟨ha, hpl, hr, hrl⟩ := pok_args hp
  obtain ⟨a, m, rfl, hl, hvs, hnm, hlen⟩ := h.lits
  have HL := Lib.hid hl
  have HO := Lib.hid HO
  obtain ⟨x0, rfl⟩ := len_one (of_decide_eq_true (show decide (l.length = 1) = true from ha))
  have HT : Hid (txt (.mk 4 int vk vi vs nm [x0]) = [78, 79, 84, 32] ++ opd 3 x0) := Lib.hid (by rw [txt_mk]; rfl)
  have hol : (opd 3 x0).length ≤ 1000000000 := opd_short hN (hpl x0 (by simp)) (by simp)
  have hsz := mkS (opd 3 x0)
  clear hE h hl hp
  go_enter Tryz.func27, Tryz.ntmps27
  go_upto_region 1 with (fail)
  refine name_alloc (K := Code.wp _ _ _ _) fun w1 hB hw1 hz1 => ?_
  have HW := Lib.hid hw1
  have HBk := Lib.hid hB
  have hE1 := HE.out.below hw1
  have HE1 := Lib.hid hE1
  have p0 := hB.cell 0 rfl
  have p6 := hB.cell 6 rfl
  clear hB hw1 hE1 hz1
  simp only [List.length_cons, List.length_nil, Nat.zero_add] at *
  obtain ⟨g, o, us, eq, hgl, hcell, hkx, hrx⟩ := HL.out.at_ (k := 0) (by decide)
  subst eq
  have HX : Hid (XR w x0 us) := Lib.hid hrx
  obtain ⟨eop, eint, evk, evi, evs, enm, el, ee⟩ : ∃ eop eint evk evi evs enm el, x0 = X.mk eop eint evk evi evs enm el := by
    cases x0
    exact ⟨_, _, _, _, _, _, _, rfl⟩
  have hrx2 := hrx
  have hrx2 : XR w (X.mk eop eint evk evi evs enm el) us := ee ▸ hrx
  obtain ⟨ea, em, rfl, _⟩ := hrx2.lits
  have rr : ∀ j (u : Value), ([.int .i64 eop, .int .i64 eint, .int .i64 evk, .int .i64 evi, .string ⟨evs.toArray⟩, .string ⟨enm.toArray⟩, .slice ea el.length em] : List Value)[j]? = some u → w1.cell? ⟨g, o + 0 * 7 + j, none⟩ = some u := fun j u hu => (HW.out.cell (by exact hgl)).trans (hcell j u hu)
  have r0 := rr 0 _ rfl
  have r1 := rr 1 _ rfl
  have r2 := rr 2 _ rfl
  have r3 := rr 3 _ rfl
  have r4 := rr 4 _ rfl
  have r5 := rr 5 _ rfl
  have r6 := rr 6 _ rfl
  simp only [Nat.zero_mul, Nat.add_zero] at r0 r1 r2 r3 r4 r5 r6
  have gl : g < w1.heap.size := by have := HW.out.size; omega
  clear rr hcell ee
  have HO1 := Lib.hid (HO.out x0 (by simp) 3 _ w1 HW.out (HX.out.kept HW.out (Nat.le_refl _)))
  clear hrx hrx2 HO
  generalize opd 3 x0 = y at HT hol HO1 hsz
  have y0 : ¬ maxLen < 4 + y.length := by unfold maxLen; omega
  go_wp2_with fail
  refine HO1.out.mono ?_
  rintro e w2 ⟨rfl, hw2⟩
  have HW2 := Lib.hid (HW.out.trans (hw2.mono HW.out.size))
  clear hw2
  go_wp2_with fail
  go_ret
  rw [HT.out]
  exact Ret.str (by simp [ByteArray.data_append]) HW2.out
set_option maxRecDepth 100000 in
set_option maxHeartbeats 20000000 in
theorem exp_neg (int vk vi : Int) (vs nm : S) (l : List X) (cs : List Value) (w : World) (hp : pOk (.mk 18 int vk vi vs nm l) = true) (hE : Env w) (h : XR w (.mk 18 int vk vi vs nm l) cs) (hN : nodes (.mk 18 int vk vi vs nm l) ≤ 1000000) (HI : ∀ x ∈ l, ∀ (cs : List Value) (w' : World), Below w.heap.size w w' → XR w' x cs → Calls Tryz.prog 27 #[.agg cs.toArray] w' (Ret w' (.string ⟨(txt x).toArray⟩))) (HO : ∀ x ∈ l, ∀ (n : Int) (cs : List Value) (w' : World), Below w.heap.size w w' → XR w' x cs → Calls Tryz.prog 67 #[.agg cs.toArray, .int .i64 n] w' (Ret w' (.string ⟨(opd n x).toArray⟩))) :
    Calls Tryz.prog 27 #[.agg cs.toArray] w (Ret w (.string ⟨(txt (.mk 18 int vk vi vs nm l)).toArray⟩)) := by
  have HE := Lib.hid hE
  have HGOOD := Lib.hid (txt_good _ _ (Nat.le_refl _) hp)
  obtain ⟨ha, hpl, hr, hrl⟩ := pok_args hp
  obtain ⟨a, m, rfl, hl, hvs, hnm, hlen⟩ := h.lits
  have HL := Lib.hid hl
  have HO := Lib.hid HO
  have HI := Lib.hid HI
  obtain ⟨x0, rfl⟩ := len_one (of_decide_eq_true (show decide (l.length = 1) = true from ha))
  have HT : Hid (txt (.mk 18 int vk vi vs nm [x0]) = if number x0 then [45, 40] ++ (txt x0 ++ [41]) else 45 :: opd 8 x0) := Lib.hid (by rw [txt_mk]; show (if number x0 = true then [45, 40] ++ (opd 0 x0 ++ [41]) else 45 :: opd 8 x0) = _; rw [opd_zero])
  have hol : (opd 8 x0).length ≤ 1000000000 := opd_short hN (hpl x0 (by simp)) (by simp)
  have htl : (opd 0 x0).length ≤ 1000000000 := opd_short hN (hpl x0 (by simp)) (by simp)
  rw [opd_zero] at htl
  have hsz := mkS (opd 8 x0)
  have hsz2 := mkS (txt x0)
  clear hE h hl hp
  go_enter Tryz.func27, Tryz.ntmps27
  go_upto_region 1 with (fail)
  refine name_alloc (K := Code.wp _ _ _ _) fun w1 hB hw1 hz1 => ?_
  have HW := Lib.hid hw1
  have HBk := Lib.hid hB
  have hE1 := HE.out.below hw1
  have HE1 := Lib.hid hE1
  have p0 := hB.cell 0 rfl
  have p6 := hB.cell 6 rfl
  clear hB hw1 hE1 hz1
  simp only [List.length_cons, List.length_nil, Nat.zero_add] at *
  obtain ⟨g, o, us, eq, hgl, hcell, hkx, hrx⟩ := HL.out.at_ (k := 0) (by decide)
  subst eq
  have HX : Hid (XR w x0 us) := Lib.hid hrx
  obtain ⟨eop, eint, evk, evi, evs, enm, el, ee⟩ : ∃ eop eint evk evi evs enm el, x0 = X.mk eop eint evk evi evs enm el := by
    cases x0
    exact ⟨_, _, _, _, _, _, _, rfl⟩
  have hrx2 := hrx
  have hrx2 : XR w (X.mk eop eint evk evi evs enm el) us := ee ▸ hrx
  obtain ⟨ea, em, rfl, _⟩ := hrx2.lits
  have rr : ∀ j (u : Value), ([.int .i64 eop, .int .i64 eint, .int .i64 evk, .int .i64 evi, .string ⟨evs.toArray⟩, .string ⟨enm.toArray⟩, .slice ea el.length em] : List Value)[j]? = some u → w1.cell? ⟨g, o + 0 * 7 + j, none⟩ = some u := fun j u hu => (HW.out.cell (by exact hgl)).trans (hcell j u hu)
  have r0 := rr 0 _ rfl
  have r1 := rr 1 _ rfl
  have r2 := rr 2 _ rfl
  have r3 := rr 3 _ rfl
  have r4 := rr 4 _ rfl
  have r5 := rr 5 _ rfl
  have r6 := rr 6 _ rfl
  simp only [Nat.zero_mul, Nat.add_zero] at r0 r1 r2 r3 r4 r5 r6
  have gl : g < w1.heap.size := by have := HW.out.size; omega
  clear rr hcell ee
  have HN := Lib.hid (number_call (HX.out.kept HW.out (Nat.le_refl _)))
  generalize number x0 = nb at HT HN
  have HO1 := Lib.hid fun (w' : World) (hw' : Below w.heap.size w w') => HO.out x0 (by simp) 8 _ w' hw' (HX.out.kept hw' (Nat.le_refl _))
  have HI1 := Lib.hid fun (w' : World) (hw' : Below w.heap.size w w') => HI.out x0 (by simp) _ w' hw' (HX.out.kept hw' (Nat.le_refl _))
  clear hrx hrx2 HO HI
  generalize opd 8 x0 = y at HT hol HO1 hsz
  generalize txt x0 = z at HT htl HI1 hsz2
  have y0 : ¬ maxLen < 1 + y.length := by unfold maxLen; omega
  have y1 : ¬ maxLen < 2 + z.length := by unfold maxLen; omega
  have y2 : ¬ maxLen < 2 + z.length + 1 := by unfold maxLen; omega
  go_wp2_with fail
  refine HN.out.mono ?_
  rintro e w2 ⟨rfl, hw2⟩
  have HB2 := Lib.hid (HBk.out.below hw2)
  have HWa := Lib.hid (HW.out.trans (hw2.mono HW.out.size))
  have p6 := HB2.out.cell 6 rfl
  have s0 := (hw2.cell gl).trans r0
  have s1 := (hw2.cell gl).trans r1
  have s2 := (hw2.cell gl).trans r2
  have s3 := (hw2.cell gl).trans r3
  have s4 := (hw2.cell gl).trans r4
  have s5 := (hw2.cell gl).trans r5
  have s6 := (hw2.cell gl).trans r6
  have gl2 : g < w2.heap.size := Nat.lt_of_lt_of_le gl hw2.size
  clear hw2 HBk HN r0 r1 r2 r3 r4 r5 r6
  have HO2 := Lib.hid (HO1.out w2 HWa.out)
  have HI2 := Lib.hid (HI1.out w2 HWa.out)
  clear HO1 HI1
  cases nb
  · go_wp2_with fail
    refine HO2.out.mono ?_
    rintro e w3 ⟨rfl, hw3⟩
    have HW3 := Lib.hid (HWa.out.trans (hw3.mono HWa.out.size))
    clear hw3
    go_wp2_with fail
    go_ret
    rw [HT.out]
    exact Ret.str (by simp [ByteArray.data_append]) HW3.out
  · go_wp2_with fail
    refine HI2.out.mono ?_
    rintro e w3 ⟨rfl, hw3⟩
    have HW3 := Lib.hid (HWa.out.trans (hw3.mono HWa.out.size))
    clear hw3
    go_wp2_with fail
    go_ret
    rw [HT.out]
    exact Ret.str (by simp [ByteArray.data_append]) HW3.out
set_option maxRecDepth 100000 in
set_option maxHeartbeats 20000000 in
theorem exp_length (int vk vi : Int) (vs nm : S) (l : List X) (cs : List Value) (w : World) (hp : pOk (.mk 20 int vk vi vs nm l) = true) (hE : Env w) (h : XR w (.mk 20 int vk vi vs nm l) cs) (hN : nodes (.mk 20 int vk vi vs nm l) ≤ 1000000) (HI : ∀ x ∈ l, ∀ (cs : List Value) (w' : World), Below w.heap.size w w' → XR w' x cs → Calls Tryz.prog 27 #[.agg cs.toArray] w' (Ret w' (.string ⟨(txt x).toArray⟩))) :
    Calls Tryz.prog 27 #[.agg cs.toArray] w (Ret w (.string ⟨(txt (.mk 20 int vk vi vs nm l)).toArray⟩)) := by
  have HE := Lib.hid hE
  have HGOOD := Lib.hid (txt_good _ _ (Nat.le_refl _) hp)
  obtain ⟨ha, hpl, hr, hrl⟩ := pok_args hp
  obtain ⟨a, m, rfl, hl, hvs, hnm, hlen⟩ := h.lits
  have HL := Lib.hid hl
  have HI := Lib.hid HI
  have HT : Hid (txt (.mk 20 int vk vi vs nm l) = signL 20 ++ 40 :: (Lib.join (l.map txt) [44, 32] ++ [41])) := Lib.hid (by rw [txt_mk, ← opds0]; rfl)
  have hjl : (Lib.join (l.map txt) [44, 32]).length ≤ 1000000000 := join_short hN hpl
  have hll : l.length ≤ 1000000 := args_short hN
  have hsl := sign_len 20
  have hs2 := mkS (signL 20)
  have hs3 := mkS (Lib.join (l.map txt) [44, 32])
  clear hE h hl hp
  go_enter Tryz.func27, Tryz.ntmps27
  go_upto_region 1 with (fail)
  refine name_alloc (K := Code.wp _ _ _ _) fun w1 hB hw1 hz1 => ?_
  have HW := Lib.hid hw1
  have HBk := Lib.hid hB
  have hE1 := HE.out.below hw1
  have HE1 := Lib.hid hE1
  have p0 := hB.cell 0 rfl
  clear hB hw1 hE1 hz1
  have HSG := Lib.hid fun w' => sign_call 20 w'
  have HTX := Lib.hid fun (w' : World) (hw' : Below w.heap.size w w') => texts_call l a m w' (by omega) (HL.out.kept hw' (Nat.le_refl _)) (by omega) (fun x hx cs w2 hb hr => HI.out x hx cs w2 (hw'.trans (hb.mono hw'.size)) hr)
  clear HI
  generalize Lib.join (l.map txt) [44, 32] = z at HT hjl hs3 HTX
  generalize signL 20 = sg at HT hsl hs2 HSG
  have y0 : ¬ maxLen < sg.length + 1 := by unfold maxLen; omega
  have y1 : ¬ maxLen < sg.length + 1 + z.length := by unfold maxLen; omega
  have y2 : ¬ maxLen < sg.length + 1 + z.length + 1 := by unfold maxLen; omega
  go_upto_region 21 with (fail)
  have hb0 : Below w1.heap.size w1 { w1 with drawn := w1.drawn + 1 } := belowD w1 1
  refine Gr.region_grow 9 (by kernel_rfl) (by kernel_rfl) (fun w' => Below w1.heap.size w1 w') hb0 ?_
  simp only [List.take_succ_cons, List.take_zero, List.drop_succ_cons, List.drop_zero]
  clear p0 hb0
  refine Gr.line_step _ (by go_simp; intro w' hw'; go_simp; rw [Gr.grown_value]) ?_
  refine Gr.line_norm fun K hK => ?_; go_simp; refine hK _ ?_; clear hK K
  refine Gr.line_step _ (by go_simp; intro w' hw'; have p0 := (HBk.out.below hw').cell 0 rfl; go_simp; rw [Gr.grown_value]) ?_
  refine Gr.line_norm fun K hK => ?_; go_simp; refine hK _ ?_; clear hK K
  refine Gr.line_step (.string ⟨sg.toArray⟩) (by go_simp; intro w' hw'; go_simp; rw [Gr.grown_enter]; exact Ret.fam (HSG.out w') hw') ?_
  refine Gr.line_norm fun K hK => ?_; go_simp; refine hK _ ?_; clear hK K
  refine Gr.line_step _ (by go_simp; intro w' hw'; go_simp; rw [if_neg (show ¬ 9223372036854775807 < sg.length + 1 by omega), Gr.grown_value]) ?_
  refine Gr.line_norm fun K hK => ?_; go_simp; refine hK _ ?_; clear hK K
  refine Gr.line_step _ (by go_simp; intro w' hw'; go_simp; rw [Gr.grown_value]) ?_
  refine Gr.line_norm fun K hK => ?_; go_simp; refine hK _ ?_; clear hK K
  refine Gr.line_step _ (by go_simp; intro w' hw'; have p6 := (HBk.out.below hw').cell 6 rfl; go_simp; rw [Gr.grown_value]) ?_
  refine Gr.line_norm fun K hK => ?_; go_simp; refine hK _ ?_; clear hK K
  refine Gr.line_step (.string ⟨z.toArray⟩) (by go_simp; intro w' hw'; go_simp; rw [Gr.grown_enter]; exact Ret.fam (HTX.out w' (HW.out.trans (hw'.mono HW.out.size))) hw') ?_
  refine Gr.line_norm fun K hK => ?_; go_simp; refine hK _ ?_; clear hK K
  refine Gr.line_step _ (by go_simp; intro w' hw'; go_simp; rw [if_neg (show ¬ 9223372036854775807 < sg.length + 1 + z.length by omega), Gr.grown_value]) ?_
  refine Gr.line_norm fun K hK => ?_; go_simp; refine hK _ ?_; clear hK K
  refine Gr.line_step _ (by go_simp; intro w' hw'; go_simp; rw [if_neg (show ¬ 9223372036854775807 < sg.length + 1 + z.length + 1 by omega), Gr.grown_value]) ?_
  refine Gr.line_norm fun K hK => ?_; go_simp; refine hK _ ?_; clear hK K
  refine Gr.line_nil fun w4 hw4 => ?_
  have HW4 := Lib.hid (HW.out.trans (hw4.mono HW.out.size))
  clear hw4
  go_wp2_with fail
  go_ret
  rw [HT.out]
  exact Ret.str (by simp [ByteArray.data_append]) HW4.out
set_option maxRecDepth 100000 in
set_option maxHeartbeats 20000000 in
theorem exp_if (int vk vi : Int) (vs nm : S) (l : List X) (cs : List Value) (w : World) (hp : pOk (.mk 22 int vk vi vs nm l) = true) (hE : Env w) (h : XR w (.mk 22 int vk vi vs nm l) cs) (hN : nodes (.mk 22 int vk vi vs nm l) ≤ 1000000) (HI : ∀ x ∈ l, ∀ (cs : List Value) (w' : World), Below w.heap.size w w' → XR w' x cs → Calls Tryz.prog 27 #[.agg cs.toArray] w' (Ret w' (.string ⟨(txt x).toArray⟩))) :
    Calls Tryz.prog 27 #[.agg cs.toArray] w (Ret w (.string ⟨(txt (.mk 22 int vk vi vs nm l)).toArray⟩)) := by
  have HE := Lib.hid hE
  have HGOOD := Lib.hid (txt_good _ _ (Nat.le_refl _) hp)
  obtain ⟨ha, hpl, hr, hrl⟩ := pok_args hp
  obtain ⟨a, m, rfl, hl, hvs, hnm, hlen⟩ := h.lits
  have HL := Lib.hid hl
  have HI := Lib.hid HI
  have HT : Hid (txt (.mk 22 int vk vi vs nm l) = signL 22 ++ 40 :: (Lib.join (l.map txt) [44, 32] ++ [41])) := Lib.hid (by rw [txt_mk, ← opds0]; rfl)
  have hjl : (Lib.join (l.map txt) [44, 32]).length ≤ 1000000000 := join_short hN hpl
  have hll : l.length ≤ 1000000 := args_short hN
  have hsl := sign_len 22
  have hs2 := mkS (signL 22)
  have hs3 := mkS (Lib.join (l.map txt) [44, 32])
  clear hE h hl hp
  go_enter Tryz.func27, Tryz.ntmps27
  go_upto_region 1 with (fail)
  refine name_alloc (K := Code.wp _ _ _ _) fun w1 hB hw1 hz1 => ?_
  have HW := Lib.hid hw1
  have HBk := Lib.hid hB
  have hE1 := HE.out.below hw1
  have HE1 := Lib.hid hE1
  have p0 := hB.cell 0 rfl
  clear hB hw1 hE1 hz1
  have HSG := Lib.hid fun w' => sign_call 22 w'
  have HTX := Lib.hid fun (w' : World) (hw' : Below w.heap.size w w') => texts_call l a m w' (by omega) (HL.out.kept hw' (Nat.le_refl _)) (by omega) (fun x hx cs w2 hb hr => HI.out x hx cs w2 (hw'.trans (hb.mono hw'.size)) hr)
  clear HI
  generalize Lib.join (l.map txt) [44, 32] = z at HT hjl hs3 HTX
  generalize signL 22 = sg at HT hsl hs2 HSG
  have y0 : ¬ maxLen < sg.length + 1 := by unfold maxLen; omega
  have y1 : ¬ maxLen < sg.length + 1 + z.length := by unfold maxLen; omega
  have y2 : ¬ maxLen < sg.length + 1 + z.length + 1 := by unfold maxLen; omega
  go_upto_region 21 with (fail)
  have hb0 : Below w1.heap.size w1 { w1 with drawn := w1.drawn + 1 } := belowD w1 1
  refine Gr.region_grow 9 (by kernel_rfl) (by kernel_rfl) (fun w' => Below w1.heap.size w1 w') hb0 ?_
  simp only [List.take_succ_cons, List.take_zero, List.drop_succ_cons, List.drop_zero]
  clear p0 hb0
  refine Gr.line_step _ (by go_simp; intro w' hw'; go_simp; rw [Gr.grown_value]) ?_
  refine Gr.line_norm fun K hK => ?_; go_simp; refine hK _ ?_; clear hK K
  refine Gr.line_step _ (by go_simp; intro w' hw'; have p0 := (HBk.out.below hw').cell 0 rfl; go_simp; rw [Gr.grown_value]) ?_
  refine Gr.line_norm fun K hK => ?_; go_simp; refine hK _ ?_; clear hK K
  refine Gr.line_step (.string ⟨sg.toArray⟩) (by go_simp; intro w' hw'; go_simp; rw [Gr.grown_enter]; exact Ret.fam (HSG.out w') hw') ?_
  refine Gr.line_norm fun K hK => ?_; go_simp; refine hK _ ?_; clear hK K
  refine Gr.line_step _ (by go_simp; intro w' hw'; go_simp; rw [if_neg (show ¬ 9223372036854775807 < sg.length + 1 by omega), Gr.grown_value]) ?_
  refine Gr.line_norm fun K hK => ?_; go_simp; refine hK _ ?_; clear hK K
  refine Gr.line_step _ (by go_simp; intro w' hw'; go_simp; rw [Gr.grown_value]) ?_
  refine Gr.line_norm fun K hK => ?_; go_simp; refine hK _ ?_; clear hK K
  refine Gr.line_step _ (by go_simp; intro w' hw'; have p6 := (HBk.out.below hw').cell 6 rfl; go_simp; rw [Gr.grown_value]) ?_
  refine Gr.line_norm fun K hK => ?_; go_simp; refine hK _ ?_; clear hK K
  refine Gr.line_step (.string ⟨z.toArray⟩) (by go_simp; intro w' hw'; go_simp; rw [Gr.grown_enter]; exact Ret.fam (HTX.out w' (HW.out.trans (hw'.mono HW.out.size))) hw') ?_
  refine Gr.line_norm fun K hK => ?_; go_simp; refine hK _ ?_; clear hK K
  refine Gr.line_step _ (by go_simp; intro w' hw'; go_simp; rw [if_neg (show ¬ 9223372036854775807 < sg.length + 1 + z.length by omega), Gr.grown_value]) ?_
  refine Gr.line_norm fun K hK => ?_; go_simp; refine hK _ ?_; clear hK K
  refine Gr.line_step _ (by go_simp; intro w' hw'; go_simp; rw [if_neg (show ¬ 9223372036854775807 < sg.length + 1 + z.length + 1 by omega), Gr.grown_value]) ?_
  refine Gr.line_norm fun K hK => ?_; go_simp; refine hK _ ?_; clear hK K
  refine Gr.line_nil fun w4 hw4 => ?_
  have HW4 := Lib.hid (HW.out.trans (hw4.mono HW.out.size))
  clear hw4
  go_wp2_with fail
  go_ret
  rw [HT.out]
  exact Ret.str (by simp [ByteArray.data_append]) HW4.out
set_option maxRecDepth 100000 in
set_option maxHeartbeats 20000000 in
theorem exp_coalesce (int vk vi : Int) (vs nm : S) (l : List X) (cs : List Value) (w : World) (hp : pOk (.mk 23 int vk vi vs nm l) = true) (hE : Env w) (h : XR w (.mk 23 int vk vi vs nm l) cs) (hN : nodes (.mk 23 int vk vi vs nm l) ≤ 1000000) (HI : ∀ x ∈ l, ∀ (cs : List Value) (w' : World), Below w.heap.size w w' → XR w' x cs → Calls Tryz.prog 27 #[.agg cs.toArray] w' (Ret w' (.string ⟨(txt x).toArray⟩))) :
    Calls Tryz.prog 27 #[.agg cs.toArray] w (Ret w (.string ⟨(txt (.mk 23 int vk vi vs nm l)).toArray⟩)) := by
  have HE := Lib.hid hE
  have HGOOD := Lib.hid (txt_good _ _ (Nat.le_refl _) hp)
  obtain ⟨ha, hpl, hr, hrl⟩ := pok_args hp
  obtain ⟨a, m, rfl, hl, hvs, hnm, hlen⟩ := h.lits
  have HL := Lib.hid hl
  have HI := Lib.hid HI
  have HT : Hid (txt (.mk 23 int vk vi vs nm l) = signL 23 ++ 40 :: (Lib.join (l.map txt) [44, 32] ++ [41])) := Lib.hid (by rw [txt_mk, ← opds0]; rfl)
  have hjl : (Lib.join (l.map txt) [44, 32]).length ≤ 1000000000 := join_short hN hpl
  have hll : l.length ≤ 1000000 := args_short hN
  have hsl := sign_len 23
  have hs2 := mkS (signL 23)
  have hs3 := mkS (Lib.join (l.map txt) [44, 32])
  clear hE h hl hp
  go_enter Tryz.func27, Tryz.ntmps27
  go_upto_region 1 with (fail)
  refine name_alloc (K := Code.wp _ _ _ _) fun w1 hB hw1 hz1 => ?_
  have HW := Lib.hid hw1
  have HBk := Lib.hid hB
  have hE1 := HE.out.below hw1
  have HE1 := Lib.hid hE1
  have p0 := hB.cell 0 rfl
  clear hB hw1 hE1 hz1
  have HSG := Lib.hid fun w' => sign_call 23 w'
  have HTX := Lib.hid fun (w' : World) (hw' : Below w.heap.size w w') => texts_call l a m w' (by omega) (HL.out.kept hw' (Nat.le_refl _)) (by omega) (fun x hx cs w2 hb hr => HI.out x hx cs w2 (hw'.trans (hb.mono hw'.size)) hr)
  clear HI
  generalize Lib.join (l.map txt) [44, 32] = z at HT hjl hs3 HTX
  generalize signL 23 = sg at HT hsl hs2 HSG
  have y0 : ¬ maxLen < sg.length + 1 := by unfold maxLen; omega
  have y1 : ¬ maxLen < sg.length + 1 + z.length := by unfold maxLen; omega
  have y2 : ¬ maxLen < sg.length + 1 + z.length + 1 := by unfold maxLen; omega
  go_upto_region 21 with (fail)
  have hb0 : Below w1.heap.size w1 { w1 with drawn := w1.drawn + 1 } := belowD w1 1
  refine Gr.region_grow 9 (by kernel_rfl) (by kernel_rfl) (fun w' => Below w1.heap.size w1 w') hb0 ?_
  simp only [List.take_succ_cons, List.take_zero, List.drop_succ_cons, List.drop_zero]
  clear p0 hb0
  refine Gr.line_step _ (by go_simp; intro w' hw'; go_simp; rw [Gr.grown_value]) ?_
  refine Gr.line_norm fun K hK => ?_; go_simp; refine hK _ ?_; clear hK K
  refine Gr.line_step _ (by go_simp; intro w' hw'; have p0 := (HBk.out.below hw').cell 0 rfl; go_simp; rw [Gr.grown_value]) ?_
  refine Gr.line_norm fun K hK => ?_; go_simp; refine hK _ ?_; clear hK K
  refine Gr.line_step (.string ⟨sg.toArray⟩) (by go_simp; intro w' hw'; go_simp; rw [Gr.grown_enter]; exact Ret.fam (HSG.out w') hw') ?_
  refine Gr.line_norm fun K hK => ?_; go_simp; refine hK _ ?_; clear hK K
  refine Gr.line_step _ (by go_simp; intro w' hw'; go_simp; rw [if_neg (show ¬ 9223372036854775807 < sg.length + 1 by omega), Gr.grown_value]) ?_
  refine Gr.line_norm fun K hK => ?_; go_simp; refine hK _ ?_; clear hK K
  refine Gr.line_step _ (by go_simp; intro w' hw'; go_simp; rw [Gr.grown_value]) ?_
  refine Gr.line_norm fun K hK => ?_; go_simp; refine hK _ ?_; clear hK K
  refine Gr.line_step _ (by go_simp; intro w' hw'; have p6 := (HBk.out.below hw').cell 6 rfl; go_simp; rw [Gr.grown_value]) ?_
  refine Gr.line_norm fun K hK => ?_; go_simp; refine hK _ ?_; clear hK K
  refine Gr.line_step (.string ⟨z.toArray⟩) (by go_simp; intro w' hw'; go_simp; rw [Gr.grown_enter]; exact Ret.fam (HTX.out w' (HW.out.trans (hw'.mono HW.out.size))) hw') ?_
  refine Gr.line_norm fun K hK => ?_; go_simp; refine hK _ ?_; clear hK K
  refine Gr.line_step _ (by go_simp; intro w' hw'; go_simp; rw [if_neg (show ¬ 9223372036854775807 < sg.length + 1 + z.length by omega), Gr.grown_value]) ?_
  refine Gr.line_norm fun K hK => ?_; go_simp; refine hK _ ?_; clear hK K
  refine Gr.line_step _ (by go_simp; intro w' hw'; go_simp; rw [if_neg (show ¬ 9223372036854775807 < sg.length + 1 + z.length + 1 by omega), Gr.grown_value]) ?_
  refine Gr.line_norm fun K hK => ?_; go_simp; refine hK _ ?_; clear hK K
  refine Gr.line_nil fun w4 hw4 => ?_
  have HW4 := Lib.hid (HW.out.trans (hw4.mono HW.out.size))
  clear hw4
  go_wp2_with fail
  go_ret
  rw [HT.out]
  exact Ret.str (by simp [ByteArray.data_append]) HW4.out
end Go.Proofs.YtlimlmjljjmcpaaGreatDoor.Px

/-
  The text of a chain of operands with an operator between them: the program's. (Printed by gen_pxchn.py.)
-/
namespace Go.Proofs.YtlimlmjljjmcpaaGreatDoor.Px
open Go Go.RowKit Go.Proofs.YtlimlmjljjmcpaaGreatDoor.Ps
set_option linter.unusedVariables false
set_option linter.unusedSimpArgs false
def mF (F n : Int) (sg : S) (x0 : X) (D : List X) : List S := opd F x0 :: D.flatMap fun b => [sg, opd n b]
theorem mF_snoc {F n : Int} {sg : S} {x0 : X} {D : List X} {k : Nat} (h : k < D.length) : mF F n sg x0 (D.take (k + 1)) = mF F n sg x0 (D.take k) ++ [sg, opd n D[k]] := by
  unfold mF
  rw [List.take_succ_eq_append_getElem h, List.flatMap_append]
  simp
theorem mF_len (F n : Int) (sg : S) (x0 : X) (D : List X) : (mF F n sg x0 D).length = 2 * D.length + 1 := by
  unfold mF
  induction D with
  | nil => rfl
  | cons a D ih => simp only [List.flatMap_cons, List.length_cons, List.length_append, List.length_nil] at ih ⊢; omega
def Chain (op : Int) : Prop := op ≠ 1 ∧ op ≠ 3 ∧ op ≠ 26 ∧ op ≠ 25 ∧ op ≠ 21 ∧ op ≠ 4 ∧ op ≠ 18 ∧ op ≠ 22 ∧ op ≠ 23 ∧ op ≠ 20
theorem sign_ne {op : Int} {n : Nat} (h : argsB op n = true) (hc : Chain op) : signL op ≠ [] := by
  obtain ⟨n1, n2, n3, n4, n5, n6, n7, n8, n9, n10⟩ := hc
  intro e
  unfold signL at e
  by_cases h5 : op = 5
  · rw [if_pos h5] at e; cases e
  rw [if_neg h5] at e
  by_cases h6 : op = 6
  · rw [if_pos h6] at e; cases e
  rw [if_neg h6] at e
  by_cases h7 : op = 7
  · rw [if_pos h7] at e; cases e
  rw [if_neg h7] at e
  by_cases h8 : op = 8
  · rw [if_pos h8] at e; cases e
  rw [if_neg h8] at e
  by_cases h9 : op = 9
  · rw [if_pos h9] at e; cases e
  rw [if_neg h9] at e
  by_cases h10 : op = 10
  · rw [if_pos h10] at e; cases e
  rw [if_neg h10] at e
  by_cases h11 : op = 11
  · rw [if_pos h11] at e; cases e
  rw [if_neg h11] at e
  by_cases h12 : op = 12
  · rw [if_pos h12] at e; cases e
  rw [if_neg h12] at e
  by_cases h13 : op = 13
  · rw [if_pos h13] at e; cases e
  rw [if_neg h13] at e
  by_cases h14 : op = 14
  · rw [if_pos h14] at e; cases e
  rw [if_neg h14] at e
  by_cases h15 : op = 15
  · rw [if_pos h15] at e; cases e
  rw [if_neg h15] at e
  by_cases h16 : op = 16
  · rw [if_pos h16] at e; cases e
  rw [if_neg h16] at e
  by_cases h17 : op = 17
  · rw [if_pos h17] at e; cases e
  rw [if_neg h17] at e
  by_cases h19 : op = 19
  · rw [if_pos h19] at e; cases e
  unfold argsB at h
  rw [if_neg (by omega), if_neg (by omega), if_neg (by omega), if_neg (by omega), if_neg (by omega), if_neg (by omega)] at h
  cases h
theorem chain_two {op : Int} {n : Nat} (h : argsB op n = true) (hc : Chain op) : 2 ≤ n := by
  obtain ⟨n1, n2, n3, n4, n5, n6, n7, n8, n9, n10⟩ := hc
  unfold argsB at h
  rw [if_neg (by omega), if_neg (by omega)] at h
  repeat' split at h
  all_goals (first | (exfalso; omega) | (have := of_decide_eq_true h; omega) | (exact absurd h (by simp)))
theorem chain_txt {op int vk vi : Int} {vs nm : S} {l : List X} {F n : Int} (hc : Chain op) (hl : 2 ≤ l.length) (hF : firstOf (levelOf op vk vi) = F) (hn : levelOf op vk vi + 1 = n) : txt (.mk op int vk vi vs nm l) = Lib.join (mF F n (signL op) (l[0]'(by omega)) (l.drop 1)) [32] := by
  obtain ⟨n1, n2, n3, n4, n5, n6, n7, n8, n9, n10⟩ := hc
  obtain ⟨a, b, r, rfl⟩ := len_two hl
  rw [txt_mk]
  unfold txtOf
  rw [if_neg n1, if_neg n2, if_neg n3, if_neg n4, if_neg n5, if_neg n6, if_neg n7, if_neg (by omega), hF, hn]
  show Lib.join (opd F a :: opds n (b :: r)) (32 :: (signL op ++ [32])) = _
  rw [opds_map, ← join_pairs]
  unfold mF
  rw [List.flatMap_map]
  rfl
theorem mF_good {op : Int} {k : Nat} {F n : Int} {x0 : X} {D : List X} (ha : argsB op k = true) (hc : Chain op) (h0 : pOk x0 = true) (hD : ∀ x ∈ D, pOk x = true) : jl (mF F n (signL op) x0 D) = mF F n (signL op) x0 D := by
  refine jl_all fun s hs => ?_
  unfold mF at hs
  rcases List.mem_cons.1 hs with rfl | hs
  · exact paren_ne (txt_good _ x0 (Nat.le_refl _) h0).1
  · obtain ⟨b, hb, hs⟩ := List.mem_flatMap.1 hs
    simp only [List.mem_cons, List.not_mem_nil, or_false] at hs
    rcases hs with rfl | rfl
    · exact sign_ne ha hc
    · exact paren_ne (txt_good _ b (Nat.le_refl _) (hD b hb)).1
theorem name_row {K : World → Prop} {w : World} {B n : Nat} {cs : Array Value} (hb : B ≤ w.heap.size) (hm : n ≤ maxLen) (hs : cs.size = n * 1) (h : ∀ w', w'.ownsRow B 9 1 (.slice (some ⟨w.heap.size, 0, none⟩) n n) n cs.toList → Below w.heap.size w w' → K w') : K (w.alloc (.cells cs 9)) :=
  h _ (World.ownsRow_lit w cs n hb hm hs) (below1 w _)
theorem cell_lit2 (w : World) (u v : Value) (e : TypeId) : ∀ j x, [u, v][j]? = some x → (w.alloc (.cells #[u, v] e)).cell? ((⟨w.heap.size, 0, none⟩ : Addr).add j) = some x := by
  intro j x hj
  match j, hj with
  | 0, hj => obtain rfl := Option.some.inj hj; exact (Blk.new w [u, v] e).cell 0 rfl
  | 1, hj => obtain rfl := Option.some.inj hj; exact (Blk.new w [u, v] e).cell 1 rfl
theorem OwnS.snoc2 {B : Nat} {v : Value} {M : List S} {s t : S} {w : World} (h : w.ownsRow B 9 1 v (M.length + 2) (M.map strV ++ [.string ⟨s.toArray⟩, .string ⟨t.toArray⟩])) : OwnS B v (M ++ [s, t]) w := by
  unfold OwnS
  rw [List.length_append, List.map_append]
  exact h
def ChRel (w : World) (M : List X → List S) (D : List X) (v i : Value) (wr : World) : Prop :=
  ∃ k : Nat, k ≤ D.length ∧ i = .int .i64 k ∧ OwnS w.heap.size v (M (D.take k)) wr ∧ Below w.heap.size w wr
theorem XL.cap {w : World} {l : List X} {a : Option Addr} {n m : Nat} (h : XL w l (.slice a n m)) : n ≤ m := by
  obtain ⟨a', n', m', xs', e1, _, _, h4, _, _⟩ := Rp.slice_inv Tryz.underlying24 h
  injection e1 with e1 _
  injection e1 with _ e2 e3
  omega
set_option maxRecDepth 100000 in
set_option maxHeartbeats 20000000 in
theorem exp_chain_1 (op int vk vi : Int) (vs nm : S) (l : List X) (cs : List Value) (w : World) (hch : Chain op) (hlv : levelOf op vk vi = 1) (hN : nodes (.mk op int vk vi vs nm l) ≤ 1000000) (hp : pOk (.mk op int vk vi vs nm l) = true) (hE : Env w) (h : XR w (.mk op int vk vi vs nm l) cs) (HO : ∀ x ∈ l, ∀ (n : Int) (cs : List Value) (w' : World), Below w.heap.size w w' → XR w' x cs → Calls Tryz.prog 67 #[.agg cs.toArray, .int .i64 n] w' (Ret w' (.string ⟨(opd n x).toArray⟩))) :
    Calls Tryz.prog 27 #[.agg cs.toArray] w (Ret w (.string ⟨(txt (.mk op int vk vi vs nm l)).toArray⟩)) := by
  obtain ⟨i0, hi0, hz0, hz1, hz2⟩ := info_parts info_str
  have HE := Lib.hid hE
  have HO := Lib.hid HO
  obtain ⟨ha, hpl, hr, hrl⟩ := pok_args hp
  have h2 := chain_two ha hch
  have HT := Lib.hid (chain_txt (int := int) (vs := vs) (nm := nm) hch h2 (F := 2) (n := 2) (by rw [hlv]; rfl) (by rw [hlv]; rfl))
  have HJ : Hid (jl (mF 2 2 (signL op) (l[0]'(by omega)) (l.drop 1)) = mF 2 2 (signL op) (l[0]'(by omega)) (l.drop 1)) := Lib.hid (mF_good ha hch (hpl _ (List.getElem_mem _)) fun x hx => hpl x (List.mem_of_mem_drop hx))
  have HLN : Hid ((Lib.join (mF 2 2 (signL op) (l[0]'(by omega)) (l.drop 1)) [32]).length ≤ 1000000000) := Lib.hid (by rw [← HT.out]; have := (txt_good _ _ (Nat.le_refl _) hp).2; omega)
  have HLV : Hid (∀ w' : World, Below w.heap.size w w' → Calls Tryz.prog 71 #[.agg cs.toArray] w' (Ret w' (.int .i64 1))) := Lib.hid fun w' hw' => by
    have := level_call (h.kept hw' (Nat.le_refl _))
    rwa [show level (.mk op int vk vi vs nm l) = 1 from hlv] at this
  have HSG := Lib.hid fun w' => sign_call op w'
  have hll : l.length ≤ 1000000 := args_short hN
  obtain ⟨q, hq⟩ : ∃ q, l.length = q + 2 := ⟨l.length - 2, by omega⟩
  obtain ⟨a, m, rfl, hl, hvs, hnm, hlen⟩ := h.lits
  have hqm : q + 2 ≤ m := by have := hl.cap; omega
  have HL := Lib.hid hl
  have HQ := Lib.hid hq
  have HP := Lib.hid hpl
  obtain ⟨n1, n2, n3, n4, n5, n6, n7, n8, n9, n10⟩ := hch
  have b1 : (op == 1) = false := by simpa using n1
  have b2 : (op == 3) = false := by simpa using n2
  have b3 : (op == 26) = false := by simpa using n3
  have b4 : (op == 25) = false := by simpa using n4
  have b5 : (op == 21) = false := by simpa using n5
  have b6 : (op == 4) = false := by simpa using n6
  have b7 : (op == 18) = false := by simpa using n7
  have b8 : (op == 22) = false := by simpa using n8
  have b9 : (op == 23) = false := by simpa using n9
  have b10 : (op == 20) = false := by simpa using n10
  clear hE h hl hp ha hr hrl hpl hlv hN n1 n2 n3 n4 n5 n6 n7 n8 n9 n10
  generalize signL op = sg at HT HJ HLN HSG
  generalize txt (.mk op int vk vi vs nm l) = TX at HT ⊢
  rw [hq] at HL HLV ⊢
  go_enter Tryz.func27, Tryz.ntmps27
  go_upto_region 1 with (fail)
  refine name_alloc (K := Code.wp _ _ _ _) fun w1 hB hw1 hz1 => ?_
  have HW := Lib.hid hw1
  have HBk := Lib.hid hB
  have hE1 := HE.out.below hw1
  have HE1 := Lib.hid hE1
  have p0 := hB.cell 0 rfl
  clear hB hw1 hE1 hz1
  go_upto_region 22 with (fail)
  have hb0 : Below w1.heap.size w1 { w1 with drawn := w1.drawn + 1 } := belowD w1 1
  refine Gr.region_grow 6 (by kernel_rfl) (by kernel_rfl) (fun w' => Below w1.heap.size w1 w') hb0 ?_
  simp only [List.take_succ_cons, List.take_zero, List.drop_succ_cons, List.drop_zero]
  clear p0 hb0
  refine Gr.line_step _ (by go_simp; intro w' hw'; have p0 := (HBk.out.below hw').cell 0 rfl; have p1 := (HBk.out.below hw').cell 1 rfl; have p2 := (HBk.out.below hw').cell 2 rfl; have p3 := (HBk.out.below hw').cell 3 rfl; have p4 := (HBk.out.below hw').cell 4 rfl; have p5 := (HBk.out.below hw').cell 5 rfl; have p6 := (HBk.out.below hw').cell 6 rfl; go_simp; rw [Gr.grown_value]) ?_
  refine Gr.line_norm fun K hK => ?_; go_simp; refine hK _ ?_; clear hK K
  refine Gr.line_step (.int .i64 1) (by go_simp; intro w' hw'; go_simp; rw [Gr.grown_enter]; exact Ret.fam (HLV.out w' (HW.out.trans (hw'.mono HW.out.size))) hw') ?_
  refine Gr.line_norm fun K hK => ?_; go_simp; refine hK _ ?_; clear hK K
  refine Gr.line_step _ (by go_simp; intro w' hw'; have p0 := (HBk.out.below hw').cell 0 rfl; have p1 := (HBk.out.below hw').cell 1 rfl; have p2 := (HBk.out.below hw').cell 2 rfl; have p3 := (HBk.out.below hw').cell 3 rfl; have p4 := (HBk.out.below hw').cell 4 rfl; have p5 := (HBk.out.below hw').cell 5 rfl; have p6 := (HBk.out.below hw').cell 6 rfl; go_simp; rw [Gr.grown_value]) ?_
  refine Gr.line_norm fun K hK => ?_; go_simp; refine hK _ ?_; clear hK K
  refine Gr.line_step (.int .i64 1) (by go_simp; intro w' hw'; go_simp; rw [Gr.grown_enter]; exact Ret.fam (HLV.out w' (HW.out.trans (hw'.mono HW.out.size))) hw') ?_
  refine Gr.line_norm fun K hK => ?_; go_simp; refine hK _ ?_; clear hK K
  refine Gr.line_step (.int .i64 2) (by go_simp; intro w' hw'; go_simp; rw [Gr.grown_value]; all_goals rfl) ?_
  refine Gr.line_norm fun K hK => ?_; go_simp; refine hK _ ?_; clear hK K
  refine Gr.line_step _ (by go_simp; intro w' hw'; go_simp; rw [Gr.grown_value]) ?_
  refine Gr.line_norm fun K hK => ?_; go_simp; refine hK _ ?_; clear hK K
  refine Gr.line_nil fun w4 hw4 => ?_
  have HB4 := Lib.hid (HBk.out.below hw4)
  have HW4 := Lib.hid (HW.out.trans (hw4.mono HW.out.size))
  clear hw4 HBk HW HLV
  have p6 := HB4.out.cell 6 rfl
  obtain ⟨g, o, us, eq, hgl, hcell, hkx, hrx⟩ := HL.out.at_ (k := 0) (by omega)
  subst eq
  have HX : Hid (XR w l[0] us) := Lib.hid hrx
  obtain ⟨eop, eint, evk, evi, evs, enm, el, ee⟩ : ∃ eop eint evk evi evs enm el, l[0] = X.mk eop eint evk evi evs enm el := by
    cases l[0]
    exact ⟨_, _, _, _, _, _, _, rfl⟩
  have hrx2 := hrx
  have hrx2 : XR w (X.mk eop eint evk evi evs enm el) us := ee ▸ hrx
  obtain ⟨ea, em, rfl, _⟩ := hrx2.lits
  have rr : ∀ j (u : Value), ([.int .i64 eop, .int .i64 eint, .int .i64 evk, .int .i64 evi, .string ⟨evs.toArray⟩, .string ⟨enm.toArray⟩, .slice ea el.length em] : List Value)[j]? = some u → w4.cell? ⟨g, o + 0 * 7 + j, none⟩ = some u := fun j u hu => (HW4.out.cell (by exact hgl)).trans (hcell j u hu)
  have r0 := rr 0 _ rfl
  have r1 := rr 1 _ rfl
  have r2 := rr 2 _ rfl
  have r3 := rr 3 _ rfl
  have r4 := rr 4 _ rfl
  have r5 := rr 5 _ rfl
  have r6 := rr 6 _ rfl
  simp only [Nat.zero_mul, Nat.add_zero] at r0 r1 r2 r3 r4 r5 r6
  have gl : g < w4.heap.size := by have := HW4.out.size; omega
  clear rr hcell ee
  have HO1 := Lib.hid (HO.out l[0] (List.getElem_mem _) 2 _ w4 HW4.out (HX.out.kept HW4.out (Nat.le_refl _)))
  clear hrx hrx2 HX
  have c1 : (0 : Int) < ((q + 2 : Nat) : Int) := by omega
  go_wp2_with fail
  refine HO1.out.mono ?_
  rintro e w5 ⟨rfl, hw5⟩
  have HB5 := Lib.hid (HB4.out.below hw5)
  have HW5 := Lib.hid (HW4.out.trans (hw5.mono HW4.out.size))
  clear hw5 HB4 HW4 HO1 p6 r0 r1 r2 r3 r4 r5 r6
  go_upto_region 30 with (fail)
  refine name_row (K := Code.wp _ _ _ _) (B := w5.heap.size) (n := 1) (Nat.le_refl _) (by decide) rfl fun w6 hO6 hw6 => ?_
  have HO6 : Hid (OwnS w5.heap.size (.slice (some ⟨w5.heap.size, 0, none⟩) 1 1) (mF 2 2 sg (l[0]'(by omega)) ((l.drop 1).take 0)) w6) := Lib.hid hO6
  have HB6 := Lib.hid (HB5.out.below hw6)
  have HW6 := Lib.hid hw6
  clear hO6 hw6
  have p6 := HB6.out.cell 6 rfl
  have hqm1 : 1 ≤ q + 2 := by omega
  have hqm2 : (q : Int) + 2 ≤ (m : Int) := by omega
  have hqm3 : (1 : Int) ≤ (q : Int) + 2 := by omega
  have hdl : (l.drop 1).length = q + 1 := by rw [List.length_drop]; have := HQ.out; omega
  have HDL := Lib.hid hdl
  go_upto_region 31 with (fail)
  clear hdl p6
  go_loopw [5, 119] (fun v i wr => ChRel w5 (mF 2 2 sg (l[0]'(by omega))) (l.drop 1) v i wr) (fun _ i _ => (q + 1) - (intOf i).toNat)
  case atStart => exact ⟨0, Nat.zero_le _, rfl, HO6.out, HW6.out⟩
  case round =>
    obtain ⟨k, hk, rfl, ho, hb⟩ := hrel
    rw [HDL.out] at hk
    have HBr := Lib.hid hb
    have HB := Lib.hid (HW5.out.trans (hb.mono HW5.out.size))
    have HBc := Lib.hid (HB5.out.below hb)
    have HOk := Lib.hid ho
    have hlt2 : ∀ g, u5.ownBlock = some g → w5.heap.size ≤ g := fun g e => (ho.lt g e).1
    clear ho hb
    by_cases hlt : k < q + 1
    · have hlk : k + 1 < l.length := by have := HQ.out; omega
      have hdk : (l.drop 1)[k]'(by rw [HDL.out]; exact hlt) = l[k + 1] := by rw [List.getElem_drop]; simp only [Nat.add_comm]
      have HSN : Hid (mF 2 2 sg (l[0]'(by omega)) ((l.drop 1).take (k + 1)) = mF 2 2 sg (l[0]'(by omega)) ((l.drop 1).take k) ++ [sg, opd 2 l[k + 1]]) := Lib.hid (by rw [mF_snoc (by rw [HDL.out]; exact hlt), hdk])
      have HML : Hid ((mF 2 2 sg (l[0]'(by omega)) ((l.drop 1).take k)).length ≤ 2000001) := Lib.hid (by rw [mF_len, List.length_take]; omega)
      generalize mF 2 2 sg (l[0]'(by omega)) ((l.drop 1).take k) = M at HOk HSN HML
      obtain ⟨g', o', us, eq', hgl', hcell', hkx, hrx⟩ := HL.out.at_ (k := k + 1) (by omega)
      injection eq' with eq'
      injection eq' with eg eo
      subst eg eo
      have HX : Hid (XR w l[k + 1] us) := Lib.hid hrx
      have hmem := List.getElem_mem (l := l) hlk
      obtain ⟨fop, fint, fvk, fvi, fvs, fnm, fl, fe⟩ : ∃ eop eint evk evi evs enm el, l[k + 1] = X.mk eop eint evk evi evs enm el := by
        cases l[k + 1]
        exact ⟨_, _, _, _, _, _, _, rfl⟩
      have hrx2 : XR w (X.mk fop fint fvk fvi fvs fnm fl) us := fe ▸ hrx
      obtain ⟨fa, fm, rfl, _⟩ := hrx2.lits
      have rr : ∀ j (u : Value), ([.int .i64 fop, .int .i64 fint, .int .i64 fvk, .int .i64 fvi, .string ⟨fvs.toArray⟩, .string ⟨fnm.toArray⟩, .slice fa fl.length fm] : List Value)[j]? = some u → wr.cell? ⟨g, o + 7 + k * 7 + j, none⟩ = some u := fun j u hu => by
        rw [show o + 7 + k * 7 + j = o + (k + 1) * 7 + j by omega]
        exact (HB.out.cell (by exact hgl')).trans (hcell' j u hu)
      have r0 := rr 0 _ rfl
      have r1 := rr 1 _ rfl
      have r2 := rr 2 _ rfl
      have r3 := rr 3 _ rfl
      have r4 := rr 4 _ rfl
      have r5 := rr 5 _ rfl
      have r6 := rr 6 _ rfl
      simp only [Nat.add_zero] at r0
      have HO2 := Lib.hid fun (w' : World) (hw' : Below w.heap.size w w') => HO.out l[k + 1] hmem 2 _ w' hw' (HX.out.kept hw' (Nat.le_refl _))
      have c2 : (k : Int) < (q : Int) + 1 := by omega
      have c3 : (0 : Int) ≤ (k : Int) := by omega
      have d1 : decide ((k : Int) < (q : Int) + 1) = true := decide_eq_true c2
      have gl : g < wr.heap.size := by have := HB.out.size; omega
      generalize opd 2 l[k + 1] = y at HSN HO2
      clear rr hcell' hrx hrx2 hdk fe hgl'
      go_upto_region 33 with (fail)
      refine name_alloc (K := Code.wp _ _ _ _) fun w7 hX7 hw7 hz7 => ?_
      have HX7 := Lib.hid hX7
      have HB7 := Lib.hid (HB.out.trans (hw7.mono HB.out.size))
      have HBr7 := Lib.hid (HBr.out.trans (hw7.mono HBr.out.size))
      have HBc7 := Lib.hid (HBc.out.below hw7)
      have HO7 := Lib.hid (OwnS.below HOk.out hw7)
      clear hX7 hw7 hz7 HBr HBc HB HOk r0 r1 r2 r3 r4 r5 r6
      have hb0 : Below w7.heap.size w7 { w7 with drawn := w7.drawn + 1 } := belowD w7 1
      refine Gr.region_grow1 6 (by kernel_rfl) (by kernel_rfl) (fun w' => Below w7.heap.size w7 w') hb0 u5 rfl (fun w => rfl) (fun c a w h => h) ?_
      refine Gr.line_norm fun K hK => ?_; go_simp; refine hK _ ?_; clear hK K
      simp only [List.take_succ_cons, List.take_zero, List.drop_succ_cons, List.drop_zero]
      clear hb0
      refine Gr.line_step _ (by go_simp; intro w' hw'; go_simp; rw [Gr.grown_value]) ?_
      refine Gr.line_norm fun K hK => ?_; go_simp; refine hK _ ?_; clear hK K
      refine Gr.line_step _ (by go_simp; intro w' hw'; have p0 := (HBc7.out.below hw').cell 0 rfl; go_simp; rw [Gr.grown_value]) ?_
      refine Gr.line_norm fun K hK => ?_; go_simp; refine hK _ ?_; clear hK K
      refine Gr.line_step (.string ⟨sg.toArray⟩) (by go_simp; intro w' hw'; go_simp; rw [Gr.grown_enter]; exact Ret.fam (HSG.out w') hw') ?_
      refine Gr.line_norm fun K hK => ?_; go_simp; refine hK _ ?_; clear hK K
      refine Gr.line_step _ (by go_simp; intro w' hw'; have x0 := (HX7.out.below hw').cell 0 rfl; have x1 := (HX7.out.below hw').cell 1 rfl; have x2 := (HX7.out.below hw').cell 2 rfl; have x3 := (HX7.out.below hw').cell 3 rfl; have x4 := (HX7.out.below hw').cell 4 rfl; have x5 := (HX7.out.below hw').cell 5 rfl; have x6 := (HX7.out.below hw').cell 6 rfl; go_simp; rw [Gr.grown_value]) ?_
      refine Gr.line_norm fun K hK => ?_; go_simp; refine hK _ ?_; clear hK K
      refine Gr.line_step _ (by go_simp; intro w' hw'; go_simp; rw [Gr.grown_value]) ?_
      refine Gr.line_norm fun K hK => ?_; go_simp; refine hK _ ?_; clear hK K
      refine Gr.line_step (.string ⟨y.toArray⟩) (by go_simp; intro w' hw'; go_simp; rw [Gr.grown_enter]; exact Ret.fam (HO2.out w' (HB7.out.trans (hw'.mono HB7.out.size))) hw') ?_
      refine Gr.line_norm fun K hK => ?_; go_simp; refine hK _ ?_; clear hK K
      refine Gr.line_nil fun w8 hw8 => ?_
      have HBr8 := Lib.hid (HBr7.out.trans (hw8.mono HBr7.out.size))
      have HO8 := Lib.hid (OwnS.below HO7.out hw8)
      clear hw8 HX7 HB7 HBr7 HBc7 HO7 HO2
      go_wp2_with (at_builtin; refine wpList_append_own_at _ rfl (.tmp 123) (.tmp 130) 111 rfl w5.heap.size 9 i0 _ 1 16 Tryz.underlying111 hi0 hz0 hz1 hz2 rfl (by omega) u5 M.length _ rfl (World.ownsRow.alloc HO8.out _) ⟨w8.heap.size, 0, none⟩ 2 2 [.string ⟨sg.toArray⟩, .string ⟨y.toArray⟩] rfl rfl (cell_lit2 _ _ _ _) (fun u hu => by simp only [List.mem_cons, List.not_mem_nil, or_false] at hu; rcases hu with rfl | rfl <;> rfl) (by unfold maxLen; have := HML.out; omega) (by have := HML.out; omega) (Nat.le_trans HBr8.out.size (by simp)) ?_)
      intro v3 w9 hown3 hg3 _ hat3
      have hb9 : Below w5.heap.size w5 w9 := (HBr8.out.alloc HBr8.out.size _).grown hg3 (Nat.le_trans HBr8.out.size (by simp)) hlt2
      have HO9 : Hid (OwnS w5.heap.size v3 (mF 2 2 sg (l[0]'(by omega)) ((l.drop 1).take (k + 1))) w9) := Lib.hid (by rw [HSN.out]; exact OwnS.snoc2 hown3)
      clear hown3 hg3 hat3
      go_wp2_with fail
      go_roundw
      case rel => exact ⟨k + 1, by rw [HDL.out]; omega, by go_num, HO9.out, hb9⟩
      case measure => simp [intOf]; omega
    · obtain rfl : k = q + 1 := by omega
      have htk : (l.drop 1).take (q + 1) = l.drop 1 := List.take_of_length_le (by rw [HDL.out]; exact Nat.le_refl _)
      have ho := HOk.out
      rw [htk] at ho
      have HMN : Hid ((mF 2 2 sg (l[0]'(by omega)) (l.drop 1)).length ≤ 1099511627776) := Lib.hid (by rw [mF_len, HDL.out]; omega)
      generalize mF 2 2 sg (l[0]'(by omega)) (l.drop 1) = M at ho HJ HT HLN HMN
      obtain ⟨a2, c2, rfl, hs⟩ := ho.form
      have HJN := join_call M a2 c2 wr HMN.out hs (by rw [HJ.out]; have := HLN.out; omega)
      rw [HJ.out, ← HT.out] at HJN
      have HJ2 := Lib.hid (Ret.at_ HJN HB.out)
      have d1 : decide ((q : Int) + 1 < (q : Int) + 1) = false := decide_eq_false (by omega)
      clear ho hs HJN HOk HJ HT HLN HMN htk
      go_wp2_with fail
      refine HJ2.out.mono ?_
      rintro e w9 ⟨rfl, hw9⟩
      go_wp2_with fail
      go_ret
      exact ⟨rfl, hw9⟩
set_option maxRecDepth 100000 in
set_option maxHeartbeats 20000000 in
theorem exp_chain_2 (op int vk vi : Int) (vs nm : S) (l : List X) (cs : List Value) (w : World) (hch : Chain op) (hlv : levelOf op vk vi = 2) (hN : nodes (.mk op int vk vi vs nm l) ≤ 1000000) (hp : pOk (.mk op int vk vi vs nm l) = true) (hE : Env w) (h : XR w (.mk op int vk vi vs nm l) cs) (HO : ∀ x ∈ l, ∀ (n : Int) (cs : List Value) (w' : World), Below w.heap.size w w' → XR w' x cs → Calls Tryz.prog 67 #[.agg cs.toArray, .int .i64 n] w' (Ret w' (.string ⟨(opd n x).toArray⟩))) :
    Calls Tryz.prog 27 #[.agg cs.toArray] w (Ret w (.string ⟨(txt (.mk op int vk vi vs nm l)).toArray⟩)) := by
  obtain ⟨i0, hi0, hz0, hz1, hz2⟩ := info_parts info_str
  have HE := Lib.hid hE
  have HO := Lib.hid HO
  obtain ⟨ha, hpl, hr, hrl⟩ := pok_args hp
  have h2 := chain_two ha hch
  have HT := Lib.hid (chain_txt (int := int) (vs := vs) (nm := nm) hch h2 (F := 3) (n := 3) (by rw [hlv]; rfl) (by rw [hlv]; rfl))
  have HJ : Hid (jl (mF 3 3 (signL op) (l[0]'(by omega)) (l.drop 1)) = mF 3 3 (signL op) (l[0]'(by omega)) (l.drop 1)) := Lib.hid (mF_good ha hch (hpl _ (List.getElem_mem _)) fun x hx => hpl x (List.mem_of_mem_drop hx))
  have HLN : Hid ((Lib.join (mF 3 3 (signL op) (l[0]'(by omega)) (l.drop 1)) [32]).length ≤ 1000000000) := Lib.hid (by rw [← HT.out]; have := (txt_good _ _ (Nat.le_refl _) hp).2; omega)
  have HLV : Hid (∀ w' : World, Below w.heap.size w w' → Calls Tryz.prog 71 #[.agg cs.toArray] w' (Ret w' (.int .i64 2))) := Lib.hid fun w' hw' => by
    have := level_call (h.kept hw' (Nat.le_refl _))
    rwa [show level (.mk op int vk vi vs nm l) = 2 from hlv] at this
  have HSG := Lib.hid fun w' => sign_call op w'
  have hll : l.length ≤ 1000000 := args_short hN
  obtain ⟨q, hq⟩ : ∃ q, l.length = q + 2 := ⟨l.length - 2, by omega⟩
  obtain ⟨a, m, rfl, hl, hvs, hnm, hlen⟩ := h.lits
  have hqm : q + 2 ≤ m := by have := hl.cap; omega
  have HL := Lib.hid hl
  have HQ := Lib.hid hq
  have HP := Lib.hid hpl
  obtain ⟨n1, n2, n3, n4, n5, n6, n7, n8, n9, n10⟩ := hch
  have b1 : (op == 1) = false := by simpa using n1
  have b2 : (op == 3) = false := by simpa using n2
  have b3 : (op == 26) = false := by simpa using n3
  have b4 : (op == 25) = false := by simpa using n4
  have b5 : (op == 21) = false := by simpa using n5
  have b6 : (op == 4) = false := by simpa using n6
  have b7 : (op == 18) = false := by simpa using n7
  have b8 : (op == 22) = false := by simpa using n8
  have b9 : (op == 23) = false := by simpa using n9
  have b10 : (op == 20) = false := by simpa using n10
  clear hE h hl hp ha hr hrl hpl hlv hN n1 n2 n3 n4 n5 n6 n7 n8 n9 n10
  generalize signL op = sg at HT HJ HLN HSG
  generalize txt (.mk op int vk vi vs nm l) = TX at HT ⊢
  rw [hq] at HL HLV ⊢
  go_enter Tryz.func27, Tryz.ntmps27
  go_upto_region 1 with (fail)
  refine name_alloc (K := Code.wp _ _ _ _) fun w1 hB hw1 hz1 => ?_
  have HW := Lib.hid hw1
  have HBk := Lib.hid hB
  have hE1 := HE.out.below hw1
  have HE1 := Lib.hid hE1
  have p0 := hB.cell 0 rfl
  clear hB hw1 hE1 hz1
  go_upto_region 22 with (fail)
  have hb0 : Below w1.heap.size w1 { w1 with drawn := w1.drawn + 1 } := belowD w1 1
  refine Gr.region_grow 6 (by kernel_rfl) (by kernel_rfl) (fun w' => Below w1.heap.size w1 w') hb0 ?_
  simp only [List.take_succ_cons, List.take_zero, List.drop_succ_cons, List.drop_zero]
  clear p0 hb0
  refine Gr.line_step _ (by go_simp; intro w' hw'; have p0 := (HBk.out.below hw').cell 0 rfl; have p1 := (HBk.out.below hw').cell 1 rfl; have p2 := (HBk.out.below hw').cell 2 rfl; have p3 := (HBk.out.below hw').cell 3 rfl; have p4 := (HBk.out.below hw').cell 4 rfl; have p5 := (HBk.out.below hw').cell 5 rfl; have p6 := (HBk.out.below hw').cell 6 rfl; go_simp; rw [Gr.grown_value]) ?_
  refine Gr.line_norm fun K hK => ?_; go_simp; refine hK _ ?_; clear hK K
  refine Gr.line_step (.int .i64 2) (by go_simp; intro w' hw'; go_simp; rw [Gr.grown_enter]; exact Ret.fam (HLV.out w' (HW.out.trans (hw'.mono HW.out.size))) hw') ?_
  refine Gr.line_norm fun K hK => ?_; go_simp; refine hK _ ?_; clear hK K
  refine Gr.line_step _ (by go_simp; intro w' hw'; have p0 := (HBk.out.below hw').cell 0 rfl; have p1 := (HBk.out.below hw').cell 1 rfl; have p2 := (HBk.out.below hw').cell 2 rfl; have p3 := (HBk.out.below hw').cell 3 rfl; have p4 := (HBk.out.below hw').cell 4 rfl; have p5 := (HBk.out.below hw').cell 5 rfl; have p6 := (HBk.out.below hw').cell 6 rfl; go_simp; rw [Gr.grown_value]) ?_
  refine Gr.line_norm fun K hK => ?_; go_simp; refine hK _ ?_; clear hK K
  refine Gr.line_step (.int .i64 2) (by go_simp; intro w' hw'; go_simp; rw [Gr.grown_enter]; exact Ret.fam (HLV.out w' (HW.out.trans (hw'.mono HW.out.size))) hw') ?_
  refine Gr.line_norm fun K hK => ?_; go_simp; refine hK _ ?_; clear hK K
  refine Gr.line_step (.int .i64 3) (by go_simp; intro w' hw'; go_simp; rw [Gr.grown_value]; all_goals rfl) ?_
  refine Gr.line_norm fun K hK => ?_; go_simp; refine hK _ ?_; clear hK K
  refine Gr.line_step _ (by go_simp; intro w' hw'; go_simp; rw [Gr.grown_value]) ?_
  refine Gr.line_norm fun K hK => ?_; go_simp; refine hK _ ?_; clear hK K
  refine Gr.line_nil fun w4 hw4 => ?_
  have HB4 := Lib.hid (HBk.out.below hw4)
  have HW4 := Lib.hid (HW.out.trans (hw4.mono HW.out.size))
  clear hw4 HBk HW HLV
  have p6 := HB4.out.cell 6 rfl
  obtain ⟨g, o, us, eq, hgl, hcell, hkx, hrx⟩ := HL.out.at_ (k := 0) (by omega)
  subst eq
  have HX : Hid (XR w l[0] us) := Lib.hid hrx
  obtain ⟨eop, eint, evk, evi, evs, enm, el, ee⟩ : ∃ eop eint evk evi evs enm el, l[0] = X.mk eop eint evk evi evs enm el := by
    cases l[0]
    exact ⟨_, _, _, _, _, _, _, rfl⟩
  have hrx2 := hrx
  have hrx2 : XR w (X.mk eop eint evk evi evs enm el) us := ee ▸ hrx
  obtain ⟨ea, em, rfl, _⟩ := hrx2.lits
  have rr : ∀ j (u : Value), ([.int .i64 eop, .int .i64 eint, .int .i64 evk, .int .i64 evi, .string ⟨evs.toArray⟩, .string ⟨enm.toArray⟩, .slice ea el.length em] : List Value)[j]? = some u → w4.cell? ⟨g, o + 0 * 7 + j, none⟩ = some u := fun j u hu => (HW4.out.cell (by exact hgl)).trans (hcell j u hu)
  have r0 := rr 0 _ rfl
  have r1 := rr 1 _ rfl
  have r2 := rr 2 _ rfl
  have r3 := rr 3 _ rfl
  have r4 := rr 4 _ rfl
  have r5 := rr 5 _ rfl
  have r6 := rr 6 _ rfl
  simp only [Nat.zero_mul, Nat.add_zero] at r0 r1 r2 r3 r4 r5 r6
  have gl : g < w4.heap.size := by have := HW4.out.size; omega
  clear rr hcell ee
  have HO1 := Lib.hid (HO.out l[0] (List.getElem_mem _) 3 _ w4 HW4.out (HX.out.kept HW4.out (Nat.le_refl _)))
  clear hrx hrx2 HX
  have c1 : (0 : Int) < ((q + 2 : Nat) : Int) := by omega
  go_wp2_with fail
  refine HO1.out.mono ?_
  rintro e w5 ⟨rfl, hw5⟩
  have HB5 := Lib.hid (HB4.out.below hw5)
  have HW5 := Lib.hid (HW4.out.trans (hw5.mono HW4.out.size))
  clear hw5 HB4 HW4 HO1 p6 r0 r1 r2 r3 r4 r5 r6
  go_upto_region 30 with (fail)
  refine name_row (K := Code.wp _ _ _ _) (B := w5.heap.size) (n := 1) (Nat.le_refl _) (by decide) rfl fun w6 hO6 hw6 => ?_
  have HO6 : Hid (OwnS w5.heap.size (.slice (some ⟨w5.heap.size, 0, none⟩) 1 1) (mF 3 3 sg (l[0]'(by omega)) ((l.drop 1).take 0)) w6) := Lib.hid hO6
  have HB6 := Lib.hid (HB5.out.below hw6)
  have HW6 := Lib.hid hw6
  clear hO6 hw6
  have p6 := HB6.out.cell 6 rfl
  have hqm1 : 1 ≤ q + 2 := by omega
  have hqm2 : (q : Int) + 2 ≤ (m : Int) := by omega
  have hqm3 : (1 : Int) ≤ (q : Int) + 2 := by omega
  have hdl : (l.drop 1).length = q + 1 := by rw [List.length_drop]; have := HQ.out; omega
  have HDL := Lib.hid hdl
  go_upto_region 31 with (fail)
  clear hdl p6
  go_loopw [5, 119] (fun v i wr => ChRel w5 (mF 3 3 sg (l[0]'(by omega))) (l.drop 1) v i wr) (fun _ i _ => (q + 1) - (intOf i).toNat)
  case atStart => exact ⟨0, Nat.zero_le _, rfl, HO6.out, HW6.out⟩
  case round =>
    obtain ⟨k, hk, rfl, ho, hb⟩ := hrel
    rw [HDL.out] at hk
    have HBr := Lib.hid hb
    have HB := Lib.hid (HW5.out.trans (hb.mono HW5.out.size))
    have HBc := Lib.hid (HB5.out.below hb)
    have HOk := Lib.hid ho
    have hlt2 : ∀ g, u5.ownBlock = some g → w5.heap.size ≤ g := fun g e => (ho.lt g e).1
    clear ho hb
    by_cases hlt : k < q + 1
    · have hlk : k + 1 < l.length := by have := HQ.out; omega
      have hdk : (l.drop 1)[k]'(by rw [HDL.out]; exact hlt) = l[k + 1] := by rw [List.getElem_drop]; simp only [Nat.add_comm]
      have HSN : Hid (mF 3 3 sg (l[0]'(by omega)) ((l.drop 1).take (k + 1)) = mF 3 3 sg (l[0]'(by omega)) ((l.drop 1).take k) ++ [sg, opd 3 l[k + 1]]) := Lib.hid (by rw [mF_snoc (by rw [HDL.out]; exact hlt), hdk])
      have HML : Hid ((mF 3 3 sg (l[0]'(by omega)) ((l.drop 1).take k)).length ≤ 2000001) := Lib.hid (by rw [mF_len, List.length_take]; omega)
      generalize mF 3 3 sg (l[0]'(by omega)) ((l.drop 1).take k) = M at HOk HSN HML
      obtain ⟨g', o', us, eq', hgl', hcell', hkx, hrx⟩ := HL.out.at_ (k := k + 1) (by omega)
      injection eq' with eq'
      injection eq' with eg eo
      subst eg eo
      have HX : Hid (XR w l[k + 1] us) := Lib.hid hrx
      have hmem := List.getElem_mem (l := l) hlk
      obtain ⟨fop, fint, fvk, fvi, fvs, fnm, fl, fe⟩ : ∃ eop eint evk evi evs enm el, l[k + 1] = X.mk eop eint evk evi evs enm el := by
        cases l[k + 1]
        exact ⟨_, _, _, _, _, _, _, rfl⟩
      have hrx2 : XR w (X.mk fop fint fvk fvi fvs fnm fl) us := fe ▸ hrx
      obtain ⟨fa, fm, rfl, _⟩ := hrx2.lits
      have rr : ∀ j (u : Value), ([.int .i64 fop, .int .i64 fint, .int .i64 fvk, .int .i64 fvi, .string ⟨fvs.toArray⟩, .string ⟨fnm.toArray⟩, .slice fa fl.length fm] : List Value)[j]? = some u → wr.cell? ⟨g, o + 7 + k * 7 + j, none⟩ = some u := fun j u hu => by
        rw [show o + 7 + k * 7 + j = o + (k + 1) * 7 + j by omega]
        exact (HB.out.cell (by exact hgl')).trans (hcell' j u hu)
      have r0 := rr 0 _ rfl
      have r1 := rr 1 _ rfl
      have r2 := rr 2 _ rfl
      have r3 := rr 3 _ rfl
      have r4 := rr 4 _ rfl
      have r5 := rr 5 _ rfl
      have r6 := rr 6 _ rfl
      simp only [Nat.add_zero] at r0
      have HO2 := Lib.hid fun (w' : World) (hw' : Below w.heap.size w w') => HO.out l[k + 1] hmem 3 _ w' hw' (HX.out.kept hw' (Nat.le_refl _))
      have c2 : (k : Int) < (q : Int) + 1 := by omega
      have c3 : (0 : Int) ≤ (k : Int) := by omega
      have d1 : decide ((k : Int) < (q : Int) + 1) = true := decide_eq_true c2
      have gl : g < wr.heap.size := by have := HB.out.size; omega
      generalize opd 3 l[k + 1] = y at HSN HO2
      clear rr hcell' hrx hrx2 hdk fe hgl'
      go_upto_region 33 with (fail)
      refine name_alloc (K := Code.wp _ _ _ _) fun w7 hX7 hw7 hz7 => ?_
      have HX7 := Lib.hid hX7
      have HB7 := Lib.hid (HB.out.trans (hw7.mono HB.out.size))
      have HBr7 := Lib.hid (HBr.out.trans (hw7.mono HBr.out.size))
      have HBc7 := Lib.hid (HBc.out.below hw7)
      have HO7 := Lib.hid (OwnS.below HOk.out hw7)
      clear hX7 hw7 hz7 HBr HBc HB HOk r0 r1 r2 r3 r4 r5 r6
      have hb0 : Below w7.heap.size w7 { w7 with drawn := w7.drawn + 1 } := belowD w7 1
      refine Gr.region_grow1 6 (by kernel_rfl) (by kernel_rfl) (fun w' => Below w7.heap.size w7 w') hb0 u5 rfl (fun w => rfl) (fun c a w h => h) ?_
      refine Gr.line_norm fun K hK => ?_; go_simp; refine hK _ ?_; clear hK K
      simp only [List.take_succ_cons, List.take_zero, List.drop_succ_cons, List.drop_zero]
      clear hb0
      refine Gr.line_step _ (by go_simp; intro w' hw'; go_simp; rw [Gr.grown_value]) ?_
      refine Gr.line_norm fun K hK => ?_; go_simp; refine hK _ ?_; clear hK K
      refine Gr.line_step _ (by go_simp; intro w' hw'; have p0 := (HBc7.out.below hw').cell 0 rfl; go_simp; rw [Gr.grown_value]) ?_
      refine Gr.line_norm fun K hK => ?_; go_simp; refine hK _ ?_; clear hK K
      refine Gr.line_step (.string ⟨sg.toArray⟩) (by go_simp; intro w' hw'; go_simp; rw [Gr.grown_enter]; exact Ret.fam (HSG.out w') hw') ?_
      refine Gr.line_norm fun K hK => ?_; go_simp; refine hK _ ?_; clear hK K
      refine Gr.line_step _ (by go_simp; intro w' hw'; have x0 := (HX7.out.below hw').cell 0 rfl; have x1 := (HX7.out.below hw').cell 1 rfl; have x2 := (HX7.out.below hw').cell 2 rfl; have x3 := (HX7.out.below hw').cell 3 rfl; have x4 := (HX7.out.below hw').cell 4 rfl; have x5 := (HX7.out.below hw').cell 5 rfl; have x6 := (HX7.out.below hw').cell 6 rfl; go_simp; rw [Gr.grown_value]) ?_
      refine Gr.line_norm fun K hK => ?_; go_simp; refine hK _ ?_; clear hK K
      refine Gr.line_step _ (by go_simp; intro w' hw'; go_simp; rw [Gr.grown_value]) ?_
      refine Gr.line_norm fun K hK => ?_; go_simp; refine hK _ ?_; clear hK K
      refine Gr.line_step (.string ⟨y.toArray⟩) (by go_simp; intro w' hw'; go_simp; rw [Gr.grown_enter]; exact Ret.fam (HO2.out w' (HB7.out.trans (hw'.mono HB7.out.size))) hw') ?_
      refine Gr.line_norm fun K hK => ?_; go_simp; refine hK _ ?_; clear hK K
      refine Gr.line_nil fun w8 hw8 => ?_
      have HBr8 := Lib.hid (HBr7.out.trans (hw8.mono HBr7.out.size))
      have HO8 := Lib.hid (OwnS.below HO7.out hw8)
      clear hw8 HX7 HB7 HBr7 HBc7 HO7 HO2
      go_wp2_with (at_builtin; refine wpList_append_own_at _ rfl (.tmp 123) (.tmp 130) 111 rfl w5.heap.size 9 i0 _ 1 16 Tryz.underlying111 hi0 hz0 hz1 hz2 rfl (by omega) u5 M.length _ rfl (World.ownsRow.alloc HO8.out _) ⟨w8.heap.size, 0, none⟩ 2 2 [.string ⟨sg.toArray⟩, .string ⟨y.toArray⟩] rfl rfl (cell_lit2 _ _ _ _) (fun u hu => by simp only [List.mem_cons, List.not_mem_nil, or_false] at hu; rcases hu with rfl | rfl <;> rfl) (by unfold maxLen; have := HML.out; omega) (by have := HML.out; omega) (Nat.le_trans HBr8.out.size (by simp)) ?_)
      intro v3 w9 hown3 hg3 _ hat3
      have hb9 : Below w5.heap.size w5 w9 := (HBr8.out.alloc HBr8.out.size _).grown hg3 (Nat.le_trans HBr8.out.size (by simp)) hlt2
      have HO9 : Hid (OwnS w5.heap.size v3 (mF 3 3 sg (l[0]'(by omega)) ((l.drop 1).take (k + 1))) w9) := Lib.hid (by rw [HSN.out]; exact OwnS.snoc2 hown3)
      clear hown3 hg3 hat3
      go_wp2_with fail
      go_roundw
      case rel => exact ⟨k + 1, by rw [HDL.out]; omega, by go_num, HO9.out, hb9⟩
      case measure => simp [intOf]; omega
    · obtain rfl : k = q + 1 := by omega
      have htk : (l.drop 1).take (q + 1) = l.drop 1 := List.take_of_length_le (by rw [HDL.out]; exact Nat.le_refl _)
      have ho := HOk.out
      rw [htk] at ho
      have HMN : Hid ((mF 3 3 sg (l[0]'(by omega)) (l.drop 1)).length ≤ 1099511627776) := Lib.hid (by rw [mF_len, HDL.out]; omega)
      generalize mF 3 3 sg (l[0]'(by omega)) (l.drop 1) = M at ho HJ HT HLN HMN
      obtain ⟨a2, c2, rfl, hs⟩ := ho.form
      have HJN := join_call M a2 c2 wr HMN.out hs (by rw [HJ.out]; have := HLN.out; omega)
      rw [HJ.out, ← HT.out] at HJN
      have HJ2 := Lib.hid (Ret.at_ HJN HB.out)
      have d1 : decide ((q : Int) + 1 < (q : Int) + 1) = false := decide_eq_false (by omega)
      clear ho hs HJN HOk HJ HT HLN HMN htk
      go_wp2_with fail
      refine HJ2.out.mono ?_
      rintro e w9 ⟨rfl, hw9⟩
      go_wp2_with fail
      go_ret
      exact ⟨rfl, hw9⟩
set_option maxRecDepth 100000 in
set_option maxHeartbeats 20000000 in
theorem exp_chain_4 (op int vk vi : Int) (vs nm : S) (l : List X) (cs : List Value) (w : World) (hch : Chain op) (hlv : levelOf op vk vi = 4) (hN : nodes (.mk op int vk vi vs nm l) ≤ 1000000) (hp : pOk (.mk op int vk vi vs nm l) = true) (hE : Env w) (h : XR w (.mk op int vk vi vs nm l) cs) (HO : ∀ x ∈ l, ∀ (n : Int) (cs : List Value) (w' : World), Below w.heap.size w w' → XR w' x cs → Calls Tryz.prog 67 #[.agg cs.toArray, .int .i64 n] w' (Ret w' (.string ⟨(opd n x).toArray⟩))) :
    Calls Tryz.prog 27 #[.agg cs.toArray] w (Ret w (.string ⟨(txt (.mk op int vk vi vs nm l)).toArray⟩)) := by
  obtain ⟨i0, hi0, hz0, hz1, hz2⟩ := info_parts info_str
  have HE := Lib.hid hE
  have HO := Lib.hid HO
  obtain ⟨ha, hpl, hr, hrl⟩ := pok_args hp
  have h2 := chain_two ha hch
  have HT := Lib.hid (chain_txt (int := int) (vs := vs) (nm := nm) hch h2 (F := 5) (n := 5) (by rw [hlv]; rfl) (by rw [hlv]; rfl))
  have HJ : Hid (jl (mF 5 5 (signL op) (l[0]'(by omega)) (l.drop 1)) = mF 5 5 (signL op) (l[0]'(by omega)) (l.drop 1)) := Lib.hid (mF_good ha hch (hpl _ (List.getElem_mem _)) fun x hx => hpl x (List.mem_of_mem_drop hx))
  have HLN : Hid ((Lib.join (mF 5 5 (signL op) (l[0]'(by omega)) (l.drop 1)) [32]).length ≤ 1000000000) := Lib.hid (by rw [← HT.out]; have := (txt_good _ _ (Nat.le_refl _) hp).2; omega)
  have HLV : Hid (∀ w' : World, Below w.heap.size w w' → Calls Tryz.prog 71 #[.agg cs.toArray] w' (Ret w' (.int .i64 4))) := Lib.hid fun w' hw' => by
    have := level_call (h.kept hw' (Nat.le_refl _))
    rwa [show level (.mk op int vk vi vs nm l) = 4 from hlv] at this
  have HSG := Lib.hid fun w' => sign_call op w'
  have hll : l.length ≤ 1000000 := args_short hN
  obtain ⟨q, hq⟩ : ∃ q, l.length = q + 2 := ⟨l.length - 2, by omega⟩
  obtain ⟨a, m, rfl, hl, hvs, hnm, hlen⟩ := h.lits
  have hqm : q + 2 ≤ m := by have := hl.cap; omega
  have HL := Lib.hid hl
  have HQ := Lib.hid hq
  have HP := Lib.hid hpl
  obtain ⟨n1, n2, n3, n4, n5, n6, n7, n8, n9, n10⟩ := hch
  have b1 : (op == 1) = false := by simpa using n1
  have b2 : (op == 3) = false := by simpa using n2
  have b3 : (op == 26) = false := by simpa using n3
  have b4 : (op == 25) = false := by simpa using n4
  have b5 : (op == 21) = false := by simpa using n5
  have b6 : (op == 4) = false := by simpa using n6
  have b7 : (op == 18) = false := by simpa using n7
  have b8 : (op == 22) = false := by simpa using n8
  have b9 : (op == 23) = false := by simpa using n9
  have b10 : (op == 20) = false := by simpa using n10
  clear hE h hl hp ha hr hrl hpl hlv hN n1 n2 n3 n4 n5 n6 n7 n8 n9 n10
  generalize signL op = sg at HT HJ HLN HSG
  generalize txt (.mk op int vk vi vs nm l) = TX at HT ⊢
  rw [hq] at HL HLV ⊢
  go_enter Tryz.func27, Tryz.ntmps27
  go_upto_region 1 with (fail)
  refine name_alloc (K := Code.wp _ _ _ _) fun w1 hB hw1 hz1 => ?_
  have HW := Lib.hid hw1
  have HBk := Lib.hid hB
  have hE1 := HE.out.below hw1
  have HE1 := Lib.hid hE1
  have p0 := hB.cell 0 rfl
  clear hB hw1 hE1 hz1
  go_upto_region 22 with (fail)
  have hb0 : Below w1.heap.size w1 { w1 with drawn := w1.drawn + 1 } := belowD w1 1
  refine Gr.region_grow 6 (by kernel_rfl) (by kernel_rfl) (fun w' => Below w1.heap.size w1 w') hb0 ?_
  simp only [List.take_succ_cons, List.take_zero, List.drop_succ_cons, List.drop_zero]
  clear p0 hb0
  refine Gr.line_step _ (by go_simp; intro w' hw'; have p0 := (HBk.out.below hw').cell 0 rfl; have p1 := (HBk.out.below hw').cell 1 rfl; have p2 := (HBk.out.below hw').cell 2 rfl; have p3 := (HBk.out.below hw').cell 3 rfl; have p4 := (HBk.out.below hw').cell 4 rfl; have p5 := (HBk.out.below hw').cell 5 rfl; have p6 := (HBk.out.below hw').cell 6 rfl; go_simp; rw [Gr.grown_value]) ?_
  refine Gr.line_norm fun K hK => ?_; go_simp; refine hK _ ?_; clear hK K
  refine Gr.line_step (.int .i64 4) (by go_simp; intro w' hw'; go_simp; rw [Gr.grown_enter]; exact Ret.fam (HLV.out w' (HW.out.trans (hw'.mono HW.out.size))) hw') ?_
  refine Gr.line_norm fun K hK => ?_; go_simp; refine hK _ ?_; clear hK K
  refine Gr.line_step _ (by go_simp; intro w' hw'; have p0 := (HBk.out.below hw').cell 0 rfl; have p1 := (HBk.out.below hw').cell 1 rfl; have p2 := (HBk.out.below hw').cell 2 rfl; have p3 := (HBk.out.below hw').cell 3 rfl; have p4 := (HBk.out.below hw').cell 4 rfl; have p5 := (HBk.out.below hw').cell 5 rfl; have p6 := (HBk.out.below hw').cell 6 rfl; go_simp; rw [Gr.grown_value]) ?_
  refine Gr.line_norm fun K hK => ?_; go_simp; refine hK _ ?_; clear hK K
  refine Gr.line_step (.int .i64 4) (by go_simp; intro w' hw'; go_simp; rw [Gr.grown_enter]; exact Ret.fam (HLV.out w' (HW.out.trans (hw'.mono HW.out.size))) hw') ?_
  refine Gr.line_norm fun K hK => ?_; go_simp; refine hK _ ?_; clear hK K
  refine Gr.line_step (.int .i64 5) (by go_simp; intro w' hw'; go_simp; rw [Gr.grown_value]; all_goals rfl) ?_
  refine Gr.line_norm fun K hK => ?_; go_simp; refine hK _ ?_; clear hK K
  refine Gr.line_step _ (by go_simp; intro w' hw'; go_simp; rw [Gr.grown_value]) ?_
  refine Gr.line_norm fun K hK => ?_; go_simp; refine hK _ ?_; clear hK K
  refine Gr.line_nil fun w4 hw4 => ?_
  have HB4 := Lib.hid (HBk.out.below hw4)
  have HW4 := Lib.hid (HW.out.trans (hw4.mono HW.out.size))
  clear hw4 HBk HW HLV
  have p6 := HB4.out.cell 6 rfl
  obtain ⟨g, o, us, eq, hgl, hcell, hkx, hrx⟩ := HL.out.at_ (k := 0) (by omega)
  subst eq
  have HX : Hid (XR w l[0] us) := Lib.hid hrx
  obtain ⟨eop, eint, evk, evi, evs, enm, el, ee⟩ : ∃ eop eint evk evi evs enm el, l[0] = X.mk eop eint evk evi evs enm el := by
    cases l[0]
    exact ⟨_, _, _, _, _, _, _, rfl⟩
  have hrx2 := hrx
  have hrx2 : XR w (X.mk eop eint evk evi evs enm el) us := ee ▸ hrx
  obtain ⟨ea, em, rfl, _⟩ := hrx2.lits
  have rr : ∀ j (u : Value), ([.int .i64 eop, .int .i64 eint, .int .i64 evk, .int .i64 evi, .string ⟨evs.toArray⟩, .string ⟨enm.toArray⟩, .slice ea el.length em] : List Value)[j]? = some u → w4.cell? ⟨g, o + 0 * 7 + j, none⟩ = some u := fun j u hu => (HW4.out.cell (by exact hgl)).trans (hcell j u hu)
  have r0 := rr 0 _ rfl
  have r1 := rr 1 _ rfl
  have r2 := rr 2 _ rfl
  have r3 := rr 3 _ rfl
  have r4 := rr 4 _ rfl
  have r5 := rr 5 _ rfl
  have r6 := rr 6 _ rfl
  simp only [Nat.zero_mul, Nat.add_zero] at r0 r1 r2 r3 r4 r5 r6
  have gl : g < w4.heap.size := by have := HW4.out.size; omega
  clear rr hcell ee
  have HO1 := Lib.hid (HO.out l[0] (List.getElem_mem _) 5 _ w4 HW4.out (HX.out.kept HW4.out (Nat.le_refl _)))
  clear hrx hrx2 HX
  have c1 : (0 : Int) < ((q + 2 : Nat) : Int) := by omega
  go_wp2_with fail
  refine HO1.out.mono ?_
  rintro e w5 ⟨rfl, hw5⟩
  have HB5 := Lib.hid (HB4.out.below hw5)
  have HW5 := Lib.hid (HW4.out.trans (hw5.mono HW4.out.size))
  clear hw5 HB4 HW4 HO1 p6 r0 r1 r2 r3 r4 r5 r6
  go_upto_region 30 with (fail)
  refine name_row (K := Code.wp _ _ _ _) (B := w5.heap.size) (n := 1) (Nat.le_refl _) (by decide) rfl fun w6 hO6 hw6 => ?_
  have HO6 : Hid (OwnS w5.heap.size (.slice (some ⟨w5.heap.size, 0, none⟩) 1 1) (mF 5 5 sg (l[0]'(by omega)) ((l.drop 1).take 0)) w6) := Lib.hid hO6
  have HB6 := Lib.hid (HB5.out.below hw6)
  have HW6 := Lib.hid hw6
  clear hO6 hw6
  have p6 := HB6.out.cell 6 rfl
  have hqm1 : 1 ≤ q + 2 := by omega
  have hqm2 : (q : Int) + 2 ≤ (m : Int) := by omega
  have hqm3 : (1 : Int) ≤ (q : Int) + 2 := by omega
  have hdl : (l.drop 1).length = q + 1 := by rw [List.length_drop]; have := HQ.out; omega
  have HDL := Lib.hid hdl
  go_upto_region 31 with (fail)
  clear hdl p6
  go_loopw [5, 119] (fun v i wr => ChRel w5 (mF 5 5 sg (l[0]'(by omega))) (l.drop 1) v i wr) (fun _ i _ => (q + 1) - (intOf i).toNat)
  case atStart => exact ⟨0, Nat.zero_le _, rfl, HO6.out, HW6.out⟩
  case round =>
    obtain ⟨k, hk, rfl, ho, hb⟩ := hrel
    rw [HDL.out] at hk
    have HBr := Lib.hid hb
    have HB := Lib.hid (HW5.out.trans (hb.mono HW5.out.size))
    have HBc := Lib.hid (HB5.out.below hb)
    have HOk := Lib.hid ho
    have hlt2 : ∀ g, u5.ownBlock = some g → w5.heap.size ≤ g := fun g e => (ho.lt g e).1
    clear ho hb
    by_cases hlt : k < q + 1
    · have hlk : k + 1 < l.length := by have := HQ.out; omega
      have hdk : (l.drop 1)[k]'(by rw [HDL.out]; exact hlt) = l[k + 1] := by rw [List.getElem_drop]; simp only [Nat.add_comm]
      have HSN : Hid (mF 5 5 sg (l[0]'(by omega)) ((l.drop 1).take (k + 1)) = mF 5 5 sg (l[0]'(by omega)) ((l.drop 1).take k) ++ [sg, opd 5 l[k + 1]]) := Lib.hid (by rw [mF_snoc (by rw [HDL.out]; exact hlt), hdk])
      have HML : Hid ((mF 5 5 sg (l[0]'(by omega)) ((l.drop 1).take k)).length ≤ 2000001) := Lib.hid (by rw [mF_len, List.length_take]; omega)
      generalize mF 5 5 sg (l[0]'(by omega)) ((l.drop 1).take k) = M at HOk HSN HML
      obtain ⟨g', o', us, eq', hgl', hcell', hkx, hrx⟩ := HL.out.at_ (k := k + 1) (by omega)
      injection eq' with eq'
      injection eq' with eg eo
      subst eg eo
      have HX : Hid (XR w l[k + 1] us) := Lib.hid hrx
      have hmem := List.getElem_mem (l := l) hlk
      obtain ⟨fop, fint, fvk, fvi, fvs, fnm, fl, fe⟩ : ∃ eop eint evk evi evs enm el, l[k + 1] = X.mk eop eint evk evi evs enm el := by
        cases l[k + 1]
        exact ⟨_, _, _, _, _, _, _, rfl⟩
      have hrx2 : XR w (X.mk fop fint fvk fvi fvs fnm fl) us := fe ▸ hrx
      obtain ⟨fa, fm, rfl, _⟩ := hrx2.lits
      have rr : ∀ j (u : Value), ([.int .i64 fop, .int .i64 fint, .int .i64 fvk, .int .i64 fvi, .string ⟨fvs.toArray⟩, .string ⟨fnm.toArray⟩, .slice fa fl.length fm] : List Value)[j]? = some u → wr.cell? ⟨g, o + 7 + k * 7 + j, none⟩ = some u := fun j u hu => by
        rw [show o + 7 + k * 7 + j = o + (k + 1) * 7 + j by omega]
        exact (HB.out.cell (by exact hgl')).trans (hcell' j u hu)
      have r0 := rr 0 _ rfl
      have r1 := rr 1 _ rfl
      have r2 := rr 2 _ rfl
      have r3 := rr 3 _ rfl
      have r4 := rr 4 _ rfl
      have r5 := rr 5 _ rfl
      have r6 := rr 6 _ rfl
      simp only [Nat.add_zero] at r0
      have HO2 := Lib.hid fun (w' : World) (hw' : Below w.heap.size w w') => HO.out l[k + 1] hmem 5 _ w' hw' (HX.out.kept hw' (Nat.le_refl _))
      have c2 : (k : Int) < (q : Int) + 1 := by omega
      have c3 : (0 : Int) ≤ (k : Int) := by omega
      have d1 : decide ((k : Int) < (q : Int) + 1) = true := decide_eq_true c2
      have gl : g < wr.heap.size := by have := HB.out.size; omega
      generalize opd 5 l[k + 1] = y at HSN HO2
      clear rr hcell' hrx hrx2 hdk fe hgl'
      go_upto_region 33 with (fail)
      refine name_alloc (K := Code.wp _ _ _ _) fun w7 hX7 hw7 hz7 => ?_
      have HX7 := Lib.hid hX7
      have HB7 := Lib.hid (HB.out.trans (hw7.mono HB.out.size))
      have HBr7 := Lib.hid (HBr.out.trans (hw7.mono HBr.out.size))
      have HBc7 := Lib.hid (HBc.out.below hw7)
      have HO7 := Lib.hid (OwnS.below HOk.out hw7)
      clear hX7 hw7 hz7 HBr HBc HB HOk r0 r1 r2 r3 r4 r5 r6
      have hb0 : Below w7.heap.size w7 { w7 with drawn := w7.drawn + 1 } := belowD w7 1
      refine Gr.region_grow1 6 (by kernel_rfl) (by kernel_rfl) (fun w' => Below w7.heap.size w7 w') hb0 u5 rfl (fun w => rfl) (fun c a w h => h) ?_
      refine Gr.line_norm fun K hK => ?_; go_simp; refine hK _ ?_; clear hK K
      simp only [List.take_succ_cons, List.take_zero, List.drop_succ_cons, List.drop_zero]
      clear hb0
      refine Gr.line_step _ (by go_simp; intro w' hw'; go_simp; rw [Gr.grown_value]) ?_
      refine Gr.line_norm fun K hK => ?_; go_simp; refine hK _ ?_; clear hK K
      refine Gr.line_step _ (by go_simp; intro w' hw'; have p0 := (HBc7.out.below hw').cell 0 rfl; go_simp; rw [Gr.grown_value]) ?_
      refine Gr.line_norm fun K hK => ?_; go_simp; refine hK _ ?_; clear hK K
      refine Gr.line_step (.string ⟨sg.toArray⟩) (by go_simp; intro w' hw'; go_simp; rw [Gr.grown_enter]; exact Ret.fam (HSG.out w') hw') ?_
      refine Gr.line_norm fun K hK => ?_; go_simp; refine hK _ ?_; clear hK K
      refine Gr.line_step _ (by go_simp; intro w' hw'; have x0 := (HX7.out.below hw').cell 0 rfl; have x1 := (HX7.out.below hw').cell 1 rfl; have x2 := (HX7.out.below hw').cell 2 rfl; have x3 := (HX7.out.below hw').cell 3 rfl; have x4 := (HX7.out.below hw').cell 4 rfl; have x5 := (HX7.out.below hw').cell 5 rfl; have x6 := (HX7.out.below hw').cell 6 rfl; go_simp; rw [Gr.grown_value]) ?_
      refine Gr.line_norm fun K hK => ?_; go_simp; refine hK _ ?_; clear hK K
      refine Gr.line_step _ (by go_simp; intro w' hw'; go_simp; rw [Gr.grown_value]) ?_
      refine Gr.line_norm fun K hK => ?_; go_simp; refine hK _ ?_; clear hK K
      refine Gr.line_step (.string ⟨y.toArray⟩) (by go_simp; intro w' hw'; go_simp; rw [Gr.grown_enter]; exact Ret.fam (HO2.out w' (HB7.out.trans (hw'.mono HB7.out.size))) hw') ?_
      refine Gr.line_norm fun K hK => ?_; go_simp; refine hK _ ?_; clear hK K
      refine Gr.line_nil fun w8 hw8 => ?_
      have HBr8 := Lib.hid (HBr7.out.trans (hw8.mono HBr7.out.size))
      have HO8 := Lib.hid (OwnS.below HO7.out hw8)
      clear hw8 HX7 HB7 HBr7 HBc7 HO7 HO2
      go_wp2_with (at_builtin; refine wpList_append_own_at _ rfl (.tmp 123) (.tmp 130) 111 rfl w5.heap.size 9 i0 _ 1 16 Tryz.underlying111 hi0 hz0 hz1 hz2 rfl (by omega) u5 M.length _ rfl (World.ownsRow.alloc HO8.out _) ⟨w8.heap.size, 0, none⟩ 2 2 [.string ⟨sg.toArray⟩, .string ⟨y.toArray⟩] rfl rfl (cell_lit2 _ _ _ _) (fun u hu => by simp only [List.mem_cons, List.not_mem_nil, or_false] at hu; rcases hu with rfl | rfl <;> rfl) (by unfold maxLen; have := HML.out; omega) (by have := HML.out; omega) (Nat.le_trans HBr8.out.size (by simp)) ?_)
      intro v3 w9 hown3 hg3 _ hat3
      have hb9 : Below w5.heap.size w5 w9 := (HBr8.out.alloc HBr8.out.size _).grown hg3 (Nat.le_trans HBr8.out.size (by simp)) hlt2
      have HO9 : Hid (OwnS w5.heap.size v3 (mF 5 5 sg (l[0]'(by omega)) ((l.drop 1).take (k + 1))) w9) := Lib.hid (by rw [HSN.out]; exact OwnS.snoc2 hown3)
      clear hown3 hg3 hat3
      go_wp2_with fail
      go_roundw
      case rel => exact ⟨k + 1, by rw [HDL.out]; omega, by go_num, HO9.out, hb9⟩
      case measure => simp [intOf]; omega
    · obtain rfl : k = q + 1 := by omega
      have htk : (l.drop 1).take (q + 1) = l.drop 1 := List.take_of_length_le (by rw [HDL.out]; exact Nat.le_refl _)
      have ho := HOk.out
      rw [htk] at ho
      have HMN : Hid ((mF 5 5 sg (l[0]'(by omega)) (l.drop 1)).length ≤ 1099511627776) := Lib.hid (by rw [mF_len, HDL.out]; omega)
      generalize mF 5 5 sg (l[0]'(by omega)) (l.drop 1) = M at ho HJ HT HLN HMN
      obtain ⟨a2, c2, rfl, hs⟩ := ho.form
      have HJN := join_call M a2 c2 wr HMN.out hs (by rw [HJ.out]; have := HLN.out; omega)
      rw [HJ.out, ← HT.out] at HJN
      have HJ2 := Lib.hid (Ret.at_ HJN HB.out)
      have d1 : decide ((q : Int) + 1 < (q : Int) + 1) = false := decide_eq_false (by omega)
      clear ho hs HJN HOk HJ HT HLN HMN htk
      go_wp2_with fail
      refine HJ2.out.mono ?_
      rintro e w9 ⟨rfl, hw9⟩
      go_wp2_with fail
      go_ret
      exact ⟨rfl, hw9⟩
set_option maxRecDepth 100000 in
set_option maxHeartbeats 20000000 in
theorem exp_chain_5 (op int vk vi : Int) (vs nm : S) (l : List X) (cs : List Value) (w : World) (hch : Chain op) (hlv : levelOf op vk vi = 5) (hN : nodes (.mk op int vk vi vs nm l) ≤ 1000000) (hp : pOk (.mk op int vk vi vs nm l) = true) (hE : Env w) (h : XR w (.mk op int vk vi vs nm l) cs) (HO : ∀ x ∈ l, ∀ (n : Int) (cs : List Value) (w' : World), Below w.heap.size w w' → XR w' x cs → Calls Tryz.prog 67 #[.agg cs.toArray, .int .i64 n] w' (Ret w' (.string ⟨(opd n x).toArray⟩))) :
    Calls Tryz.prog 27 #[.agg cs.toArray] w (Ret w (.string ⟨(txt (.mk op int vk vi vs nm l)).toArray⟩)) := by
  obtain ⟨i0, hi0, hz0, hz1, hz2⟩ := info_parts info_str
  have HE := Lib.hid hE
  have HO := Lib.hid HO
  obtain ⟨ha, hpl, hr, hrl⟩ := pok_args hp
  have h2 := chain_two ha hch
  have HT := Lib.hid (chain_txt (int := int) (vs := vs) (nm := nm) hch h2 (F := 5) (n := 6) (by rw [hlv]; rfl) (by rw [hlv]; rfl))
  have HJ : Hid (jl (mF 5 6 (signL op) (l[0]'(by omega)) (l.drop 1)) = mF 5 6 (signL op) (l[0]'(by omega)) (l.drop 1)) := Lib.hid (mF_good ha hch (hpl _ (List.getElem_mem _)) fun x hx => hpl x (List.mem_of_mem_drop hx))
  have HLN : Hid ((Lib.join (mF 5 6 (signL op) (l[0]'(by omega)) (l.drop 1)) [32]).length ≤ 1000000000) := Lib.hid (by rw [← HT.out]; have := (txt_good _ _ (Nat.le_refl _) hp).2; omega)
  have HLV : Hid (∀ w' : World, Below w.heap.size w w' → Calls Tryz.prog 71 #[.agg cs.toArray] w' (Ret w' (.int .i64 5))) := Lib.hid fun w' hw' => by
    have := level_call (h.kept hw' (Nat.le_refl _))
    rwa [show level (.mk op int vk vi vs nm l) = 5 from hlv] at this
  have HSG := Lib.hid fun w' => sign_call op w'
  have hll : l.length ≤ 1000000 := args_short hN
  obtain ⟨q, hq⟩ : ∃ q, l.length = q + 2 := ⟨l.length - 2, by omega⟩
  obtain ⟨a, m, rfl, hl, hvs, hnm, hlen⟩ := h.lits
  have hqm : q + 2 ≤ m := by have := hl.cap; omega
  have HL := Lib.hid hl
  have HQ := Lib.hid hq
  have HP := Lib.hid hpl
  obtain ⟨n1, n2, n3, n4, n5, n6, n7, n8, n9, n10⟩ := hch
  have b1 : (op == 1) = false := by simpa using n1
  have b2 : (op == 3) = false := by simpa using n2
  have b3 : (op == 26) = false := by simpa using n3
  have b4 : (op == 25) = false := by simpa using n4
  have b5 : (op == 21) = false := by simpa using n5
  have b6 : (op == 4) = false := by simpa using n6
  have b7 : (op == 18) = false := by simpa using n7
  have b8 : (op == 22) = false := by simpa using n8
  have b9 : (op == 23) = false := by simpa using n9
  have b10 : (op == 20) = false := by simpa using n10
  clear hE h hl hp ha hr hrl hpl hlv hN n1 n2 n3 n4 n5 n6 n7 n8 n9 n10
  generalize signL op = sg at HT HJ HLN HSG
  generalize txt (.mk op int vk vi vs nm l) = TX at HT ⊢
  rw [hq] at HL HLV ⊢
  go_enter Tryz.func27, Tryz.ntmps27
  go_upto_region 1 with (fail)
  refine name_alloc (K := Code.wp _ _ _ _) fun w1 hB hw1 hz1 => ?_
  have HW := Lib.hid hw1
  have HBk := Lib.hid hB
  have hE1 := HE.out.below hw1
  have HE1 := Lib.hid hE1
  have p0 := hB.cell 0 rfl
  clear hB hw1 hE1 hz1
  go_upto_region 22 with (fail)
  have hb0 : Below w1.heap.size w1 { w1 with drawn := w1.drawn + 1 } := belowD w1 1
  refine Gr.region_grow 6 (by kernel_rfl) (by kernel_rfl) (fun w' => Below w1.heap.size w1 w') hb0 ?_
  simp only [List.take_succ_cons, List.take_zero, List.drop_succ_cons, List.drop_zero]
  clear p0 hb0
  refine Gr.line_step _ (by go_simp; intro w' hw'; have p0 := (HBk.out.below hw').cell 0 rfl; have p1 := (HBk.out.below hw').cell 1 rfl; have p2 := (HBk.out.below hw').cell 2 rfl; have p3 := (HBk.out.below hw').cell 3 rfl; have p4 := (HBk.out.below hw').cell 4 rfl; have p5 := (HBk.out.below hw').cell 5 rfl; have p6 := (HBk.out.below hw').cell 6 rfl; go_simp; rw [Gr.grown_value]) ?_
  refine Gr.line_norm fun K hK => ?_; go_simp; refine hK _ ?_; clear hK K
  refine Gr.line_step (.int .i64 5) (by go_simp; intro w' hw'; go_simp; rw [Gr.grown_enter]; exact Ret.fam (HLV.out w' (HW.out.trans (hw'.mono HW.out.size))) hw') ?_
  refine Gr.line_norm fun K hK => ?_; go_simp; refine hK _ ?_; clear hK K
  refine Gr.line_step _ (by go_simp; intro w' hw'; have p0 := (HBk.out.below hw').cell 0 rfl; have p1 := (HBk.out.below hw').cell 1 rfl; have p2 := (HBk.out.below hw').cell 2 rfl; have p3 := (HBk.out.below hw').cell 3 rfl; have p4 := (HBk.out.below hw').cell 4 rfl; have p5 := (HBk.out.below hw').cell 5 rfl; have p6 := (HBk.out.below hw').cell 6 rfl; go_simp; rw [Gr.grown_value]) ?_
  refine Gr.line_norm fun K hK => ?_; go_simp; refine hK _ ?_; clear hK K
  refine Gr.line_step (.int .i64 5) (by go_simp; intro w' hw'; go_simp; rw [Gr.grown_enter]; exact Ret.fam (HLV.out w' (HW.out.trans (hw'.mono HW.out.size))) hw') ?_
  refine Gr.line_norm fun K hK => ?_; go_simp; refine hK _ ?_; clear hK K
  refine Gr.line_step (.int .i64 6) (by go_simp; intro w' hw'; go_simp; rw [Gr.grown_value]; all_goals rfl) ?_
  refine Gr.line_norm fun K hK => ?_; go_simp; refine hK _ ?_; clear hK K
  refine Gr.line_step _ (by go_simp; intro w' hw'; go_simp; rw [Gr.grown_value]) ?_
  refine Gr.line_norm fun K hK => ?_; go_simp; refine hK _ ?_; clear hK K
  refine Gr.line_nil fun w4 hw4 => ?_
  have HB4 := Lib.hid (HBk.out.below hw4)
  have HW4 := Lib.hid (HW.out.trans (hw4.mono HW.out.size))
  clear hw4 HBk HW HLV
  have p6 := HB4.out.cell 6 rfl
  obtain ⟨g, o, us, eq, hgl, hcell, hkx, hrx⟩ := HL.out.at_ (k := 0) (by omega)
  subst eq
  have HX : Hid (XR w l[0] us) := Lib.hid hrx
  obtain ⟨eop, eint, evk, evi, evs, enm, el, ee⟩ : ∃ eop eint evk evi evs enm el, l[0] = X.mk eop eint evk evi evs enm el := by
    cases l[0]
    exact ⟨_, _, _, _, _, _, _, rfl⟩
  have hrx2 := hrx
  have hrx2 : XR w (X.mk eop eint evk evi evs enm el) us := ee ▸ hrx
  obtain ⟨ea, em, rfl, _⟩ := hrx2.lits
  have rr : ∀ j (u : Value), ([.int .i64 eop, .int .i64 eint, .int .i64 evk, .int .i64 evi, .string ⟨evs.toArray⟩, .string ⟨enm.toArray⟩, .slice ea el.length em] : List Value)[j]? = some u → w4.cell? ⟨g, o + 0 * 7 + j, none⟩ = some u := fun j u hu => (HW4.out.cell (by exact hgl)).trans (hcell j u hu)
  have r0 := rr 0 _ rfl
  have r1 := rr 1 _ rfl
  have r2 := rr 2 _ rfl
  have r3 := rr 3 _ rfl
  have r4 := rr 4 _ rfl
  have r5 := rr 5 _ rfl
  have r6 := rr 6 _ rfl
  simp only [Nat.zero_mul, Nat.add_zero] at r0 r1 r2 r3 r4 r5 r6
  have gl : g < w4.heap.size := by have := HW4.out.size; omega
  clear rr hcell ee
  have HO1 := Lib.hid (HO.out l[0] (List.getElem_mem _) 5 _ w4 HW4.out (HX.out.kept HW4.out (Nat.le_refl _)))
  clear hrx hrx2 HX
  have c1 : (0 : Int) < ((q + 2 : Nat) : Int) := by omega
  go_wp2_with fail
  refine HO1.out.mono ?_
  rintro e w5 ⟨rfl, hw5⟩
  have HB5 := Lib.hid (HB4.out.below hw5)
  have HW5 := Lib.hid (HW4.out.trans (hw5.mono HW4.out.size))
  clear hw5 HB4 HW4 HO1 p6 r0 r1 r2 r3 r4 r5 r6
  go_upto_region 30 with (fail)
  refine name_row (K := Code.wp _ _ _ _) (B := w5.heap.size) (n := 1) (Nat.le_refl _) (by decide) rfl fun w6 hO6 hw6 => ?_
  have HO6 : Hid (OwnS w5.heap.size (.slice (some ⟨w5.heap.size, 0, none⟩) 1 1) (mF 5 6 sg (l[0]'(by omega)) ((l.drop 1).take 0)) w6) := Lib.hid hO6
  have HB6 := Lib.hid (HB5.out.below hw6)
  have HW6 := Lib.hid hw6
  clear hO6 hw6
  have p6 := HB6.out.cell 6 rfl
  have hqm1 : 1 ≤ q + 2 := by omega
  have hqm2 : (q : Int) + 2 ≤ (m : Int) := by omega
  have hqm3 : (1 : Int) ≤ (q : Int) + 2 := by omega
  have hdl : (l.drop 1).length = q + 1 := by rw [List.length_drop]; have := HQ.out; omega
  have HDL := Lib.hid hdl
  go_upto_region 31 with (fail)
  clear hdl p6
  go_loopw [5, 119] (fun v i wr => ChRel w5 (mF 5 6 sg (l[0]'(by omega))) (l.drop 1) v i wr) (fun _ i _ => (q + 1) - (intOf i).toNat)
  case atStart => exact ⟨0, Nat.zero_le _, rfl, HO6.out, HW6.out⟩
  case round =>
    obtain ⟨k, hk, rfl, ho, hb⟩ := hrel
    rw [HDL.out] at hk
    have HBr := Lib.hid hb
    have HB := Lib.hid (HW5.out.trans (hb.mono HW5.out.size))
    have HBc := Lib.hid (HB5.out.below hb)
    have HOk := Lib.hid ho
    have hlt2 : ∀ g, u5.ownBlock = some g → w5.heap.size ≤ g := fun g e => (ho.lt g e).1
    clear ho hb
    by_cases hlt : k < q + 1
    · have hlk : k + 1 < l.length := by have := HQ.out; omega
      have hdk : (l.drop 1)[k]'(by rw [HDL.out]; exact hlt) = l[k + 1] := by rw [List.getElem_drop]; simp only [Nat.add_comm]
      have HSN : Hid (mF 5 6 sg (l[0]'(by omega)) ((l.drop 1).take (k + 1)) = mF 5 6 sg (l[0]'(by omega)) ((l.drop 1).take k) ++ [sg, opd 6 l[k + 1]]) := Lib.hid (by rw [mF_snoc (by rw [HDL.out]; exact hlt), hdk])
      have HML : Hid ((mF 5 6 sg (l[0]'(by omega)) ((l.drop 1).take k)).length ≤ 2000001) := Lib.hid (by rw [mF_len, List.length_take]; omega)
      generalize mF 5 6 sg (l[0]'(by omega)) ((l.drop 1).take k) = M at HOk HSN HML
      obtain ⟨g', o', us, eq', hgl', hcell', hkx, hrx⟩ := HL.out.at_ (k := k + 1) (by omega)
      injection eq' with eq'
      injection eq' with eg eo
      subst eg eo
      have HX : Hid (XR w l[k + 1] us) := Lib.hid hrx
      have hmem := List.getElem_mem (l := l) hlk
      obtain ⟨fop, fint, fvk, fvi, fvs, fnm, fl, fe⟩ : ∃ eop eint evk evi evs enm el, l[k + 1] = X.mk eop eint evk evi evs enm el := by
        cases l[k + 1]
        exact ⟨_, _, _, _, _, _, _, rfl⟩
      have hrx2 : XR w (X.mk fop fint fvk fvi fvs fnm fl) us := fe ▸ hrx
      obtain ⟨fa, fm, rfl, _⟩ := hrx2.lits
      have rr : ∀ j (u : Value), ([.int .i64 fop, .int .i64 fint, .int .i64 fvk, .int .i64 fvi, .string ⟨fvs.toArray⟩, .string ⟨fnm.toArray⟩, .slice fa fl.length fm] : List Value)[j]? = some u → wr.cell? ⟨g, o + 7 + k * 7 + j, none⟩ = some u := fun j u hu => by
        rw [show o + 7 + k * 7 + j = o + (k + 1) * 7 + j by omega]
        exact (HB.out.cell (by exact hgl')).trans (hcell' j u hu)
      have r0 := rr 0 _ rfl
      have r1 := rr 1 _ rfl
      have r2 := rr 2 _ rfl
      have r3 := rr 3 _ rfl
      have r4 := rr 4 _ rfl
      have r5 := rr 5 _ rfl
      have r6 := rr 6 _ rfl
      simp only [Nat.add_zero] at r0
      have HO2 := Lib.hid fun (w' : World) (hw' : Below w.heap.size w w') => HO.out l[k + 1] hmem 6 _ w' hw' (HX.out.kept hw' (Nat.le_refl _))
      have c2 : (k : Int) < (q : Int) + 1 := by omega
      have c3 : (0 : Int) ≤ (k : Int) := by omega
      have d1 : decide ((k : Int) < (q : Int) + 1) = true := decide_eq_true c2
      have gl : g < wr.heap.size := by have := HB.out.size; omega
      generalize opd 6 l[k + 1] = y at HSN HO2
      clear rr hcell' hrx hrx2 hdk fe hgl'
      go_upto_region 33 with (fail)
      refine name_alloc (K := Code.wp _ _ _ _) fun w7 hX7 hw7 hz7 => ?_
      have HX7 := Lib.hid hX7
      have HB7 := Lib.hid (HB.out.trans (hw7.mono HB.out.size))
      have HBr7 := Lib.hid (HBr.out.trans (hw7.mono HBr.out.size))
      have HBc7 := Lib.hid (HBc.out.below hw7)
      have HO7 := Lib.hid (OwnS.below HOk.out hw7)
      clear hX7 hw7 hz7 HBr HBc HB HOk r0 r1 r2 r3 r4 r5 r6
      have hb0 : Below w7.heap.size w7 { w7 with drawn := w7.drawn + 1 } := belowD w7 1
      refine Gr.region_grow1 6 (by kernel_rfl) (by kernel_rfl) (fun w' => Below w7.heap.size w7 w') hb0 u5 rfl (fun w => rfl) (fun c a w h => h) ?_
      refine Gr.line_norm fun K hK => ?_; go_simp; refine hK _ ?_; clear hK K
      simp only [List.take_succ_cons, List.take_zero, List.drop_succ_cons, List.drop_zero]
      clear hb0
      refine Gr.line_step _ (by go_simp; intro w' hw'; go_simp; rw [Gr.grown_value]) ?_
      refine Gr.line_norm fun K hK => ?_; go_simp; refine hK _ ?_; clear hK K
      refine Gr.line_step _ (by go_simp; intro w' hw'; have p0 := (HBc7.out.below hw').cell 0 rfl; go_simp; rw [Gr.grown_value]) ?_
      refine Gr.line_norm fun K hK => ?_; go_simp; refine hK _ ?_; clear hK K
      refine Gr.line_step (.string ⟨sg.toArray⟩) (by go_simp; intro w' hw'; go_simp; rw [Gr.grown_enter]; exact Ret.fam (HSG.out w') hw') ?_
      refine Gr.line_norm fun K hK => ?_; go_simp; refine hK _ ?_; clear hK K
      refine Gr.line_step _ (by go_simp; intro w' hw'; have x0 := (HX7.out.below hw').cell 0 rfl; have x1 := (HX7.out.below hw').cell 1 rfl; have x2 := (HX7.out.below hw').cell 2 rfl; have x3 := (HX7.out.below hw').cell 3 rfl; have x4 := (HX7.out.below hw').cell 4 rfl; have x5 := (HX7.out.below hw').cell 5 rfl; have x6 := (HX7.out.below hw').cell 6 rfl; go_simp; rw [Gr.grown_value]) ?_
      refine Gr.line_norm fun K hK => ?_; go_simp; refine hK _ ?_; clear hK K
      refine Gr.line_step _ (by go_simp; intro w' hw'; go_simp; rw [Gr.grown_value]) ?_
      refine Gr.line_norm fun K hK => ?_; go_simp; refine hK _ ?_; clear hK K
      refine Gr.line_step (.string ⟨y.toArray⟩) (by go_simp; intro w' hw'; go_simp; rw [Gr.grown_enter]; exact Ret.fam (HO2.out w' (HB7.out.trans (hw'.mono HB7.out.size))) hw') ?_
      refine Gr.line_norm fun K hK => ?_; go_simp; refine hK _ ?_; clear hK K
      refine Gr.line_nil fun w8 hw8 => ?_
      have HBr8 := Lib.hid (HBr7.out.trans (hw8.mono HBr7.out.size))
      have HO8 := Lib.hid (OwnS.below HO7.out hw8)
      clear hw8 HX7 HB7 HBr7 HBc7 HO7 HO2
      go_wp2_with (at_builtin; refine wpList_append_own_at _ rfl (.tmp 123) (.tmp 130) 111 rfl w5.heap.size 9 i0 _ 1 16 Tryz.underlying111 hi0 hz0 hz1 hz2 rfl (by omega) u5 M.length _ rfl (World.ownsRow.alloc HO8.out _) ⟨w8.heap.size, 0, none⟩ 2 2 [.string ⟨sg.toArray⟩, .string ⟨y.toArray⟩] rfl rfl (cell_lit2 _ _ _ _) (fun u hu => by simp only [List.mem_cons, List.not_mem_nil, or_false] at hu; rcases hu with rfl | rfl <;> rfl) (by unfold maxLen; have := HML.out; omega) (by have := HML.out; omega) (Nat.le_trans HBr8.out.size (by simp)) ?_)
      intro v3 w9 hown3 hg3 _ hat3
      have hb9 : Below w5.heap.size w5 w9 := (HBr8.out.alloc HBr8.out.size _).grown hg3 (Nat.le_trans HBr8.out.size (by simp)) hlt2
      have HO9 : Hid (OwnS w5.heap.size v3 (mF 5 6 sg (l[0]'(by omega)) ((l.drop 1).take (k + 1))) w9) := Lib.hid (by rw [HSN.out]; exact OwnS.snoc2 hown3)
      clear hown3 hg3 hat3
      go_wp2_with fail
      go_roundw
      case rel => exact ⟨k + 1, by rw [HDL.out]; omega, by go_num, HO9.out, hb9⟩
      case measure => simp [intOf]; omega
    · obtain rfl : k = q + 1 := by omega
      have htk : (l.drop 1).take (q + 1) = l.drop 1 := List.take_of_length_le (by rw [HDL.out]; exact Nat.le_refl _)
      have ho := HOk.out
      rw [htk] at ho
      have HMN : Hid ((mF 5 6 sg (l[0]'(by omega)) (l.drop 1)).length ≤ 1099511627776) := Lib.hid (by rw [mF_len, HDL.out]; omega)
      generalize mF 5 6 sg (l[0]'(by omega)) (l.drop 1) = M at ho HJ HT HLN HMN
      obtain ⟨a2, c2, rfl, hs⟩ := ho.form
      have HJN := join_call M a2 c2 wr HMN.out hs (by rw [HJ.out]; have := HLN.out; omega)
      rw [HJ.out, ← HT.out] at HJN
      have HJ2 := Lib.hid (Ret.at_ HJN HB.out)
      have d1 : decide ((q : Int) + 1 < (q : Int) + 1) = false := decide_eq_false (by omega)
      clear ho hs HJN HOk HJ HT HLN HMN htk
      go_wp2_with fail
      refine HJ2.out.mono ?_
      rintro e w9 ⟨rfl, hw9⟩
      go_wp2_with fail
      go_ret
      exact ⟨rfl, hw9⟩
set_option maxRecDepth 100000 in
set_option maxHeartbeats 20000000 in
theorem exp_chain_6 (op int vk vi : Int) (vs nm : S) (l : List X) (cs : List Value) (w : World) (hch : Chain op) (hlv : levelOf op vk vi = 6) (hN : nodes (.mk op int vk vi vs nm l) ≤ 1000000) (hp : pOk (.mk op int vk vi vs nm l) = true) (hE : Env w) (h : XR w (.mk op int vk vi vs nm l) cs) (HO : ∀ x ∈ l, ∀ (n : Int) (cs : List Value) (w' : World), Below w.heap.size w w' → XR w' x cs → Calls Tryz.prog 67 #[.agg cs.toArray, .int .i64 n] w' (Ret w' (.string ⟨(opd n x).toArray⟩))) :
    Calls Tryz.prog 27 #[.agg cs.toArray] w (Ret w (.string ⟨(txt (.mk op int vk vi vs nm l)).toArray⟩)) := by
  obtain ⟨i0, hi0, hz0, hz1, hz2⟩ := info_parts info_str
  have HE := Lib.hid hE
  have HO := Lib.hid HO
  obtain ⟨ha, hpl, hr, hrl⟩ := pok_args hp
  have h2 := chain_two ha hch
  have HT := Lib.hid (chain_txt (int := int) (vs := vs) (nm := nm) hch h2 (F := 6) (n := 7) (by rw [hlv]; rfl) (by rw [hlv]; rfl))
  have HJ : Hid (jl (mF 6 7 (signL op) (l[0]'(by omega)) (l.drop 1)) = mF 6 7 (signL op) (l[0]'(by omega)) (l.drop 1)) := Lib.hid (mF_good ha hch (hpl _ (List.getElem_mem _)) fun x hx => hpl x (List.mem_of_mem_drop hx))
  have HLN : Hid ((Lib.join (mF 6 7 (signL op) (l[0]'(by omega)) (l.drop 1)) [32]).length ≤ 1000000000) := Lib.hid (by rw [← HT.out]; have := (txt_good _ _ (Nat.le_refl _) hp).2; omega)
  have HLV : Hid (∀ w' : World, Below w.heap.size w w' → Calls Tryz.prog 71 #[.agg cs.toArray] w' (Ret w' (.int .i64 6))) := Lib.hid fun w' hw' => by
    have := level_call (h.kept hw' (Nat.le_refl _))
    rwa [show level (.mk op int vk vi vs nm l) = 6 from hlv] at this
  have HSG := Lib.hid fun w' => sign_call op w'
  have hll : l.length ≤ 1000000 := args_short hN
  obtain ⟨q, hq⟩ : ∃ q, l.length = q + 2 := ⟨l.length - 2, by omega⟩
  obtain ⟨a, m, rfl, hl, hvs, hnm, hlen⟩ := h.lits
  have hqm : q + 2 ≤ m := by have := hl.cap; omega
  have HL := Lib.hid hl
  have HQ := Lib.hid hq
  have HP := Lib.hid hpl
  obtain ⟨n1, n2, n3, n4, n5, n6, n7, n8, n9, n10⟩ := hch
  have b1 : (op == 1) = false := by simpa using n1
  have b2 : (op == 3) = false := by simpa using n2
  have b3 : (op == 26) = false := by simpa using n3
  have b4 : (op == 25) = false := by simpa using n4
  have b5 : (op == 21) = false := by simpa using n5
  have b6 : (op == 4) = false := by simpa using n6
  have b7 : (op == 18) = false := by simpa using n7
  have b8 : (op == 22) = false := by simpa using n8
  have b9 : (op == 23) = false := by simpa using n9
  have b10 : (op == 20) = false := by simpa using n10
  clear hE h hl hp ha hr hrl hpl hlv hN n1 n2 n3 n4 n5 n6 n7 n8 n9 n10
  generalize signL op = sg at HT HJ HLN HSG
  generalize txt (.mk op int vk vi vs nm l) = TX at HT ⊢
  rw [hq] at HL HLV ⊢
  go_enter Tryz.func27, Tryz.ntmps27
  go_upto_region 1 with (fail)
  refine name_alloc (K := Code.wp _ _ _ _) fun w1 hB hw1 hz1 => ?_
  have HW := Lib.hid hw1
  have HBk := Lib.hid hB
  have hE1 := HE.out.below hw1
  have HE1 := Lib.hid hE1
  have p0 := hB.cell 0 rfl
  clear hB hw1 hE1 hz1
  go_upto_region 22 with (fail)
  have hb0 : Below w1.heap.size w1 { w1 with drawn := w1.drawn + 1 } := belowD w1 1
  refine Gr.region_grow 6 (by kernel_rfl) (by kernel_rfl) (fun w' => Below w1.heap.size w1 w') hb0 ?_
  simp only [List.take_succ_cons, List.take_zero, List.drop_succ_cons, List.drop_zero]
  clear p0 hb0
  refine Gr.line_step _ (by go_simp; intro w' hw'; have p0 := (HBk.out.below hw').cell 0 rfl; have p1 := (HBk.out.below hw').cell 1 rfl; have p2 := (HBk.out.below hw').cell 2 rfl; have p3 := (HBk.out.below hw').cell 3 rfl; have p4 := (HBk.out.below hw').cell 4 rfl; have p5 := (HBk.out.below hw').cell 5 rfl; have p6 := (HBk.out.below hw').cell 6 rfl; go_simp; rw [Gr.grown_value]) ?_
  refine Gr.line_norm fun K hK => ?_; go_simp; refine hK _ ?_; clear hK K
  refine Gr.line_step (.int .i64 6) (by go_simp; intro w' hw'; go_simp; rw [Gr.grown_enter]; exact Ret.fam (HLV.out w' (HW.out.trans (hw'.mono HW.out.size))) hw') ?_
  refine Gr.line_norm fun K hK => ?_; go_simp; refine hK _ ?_; clear hK K
  refine Gr.line_step _ (by go_simp; intro w' hw'; have p0 := (HBk.out.below hw').cell 0 rfl; have p1 := (HBk.out.below hw').cell 1 rfl; have p2 := (HBk.out.below hw').cell 2 rfl; have p3 := (HBk.out.below hw').cell 3 rfl; have p4 := (HBk.out.below hw').cell 4 rfl; have p5 := (HBk.out.below hw').cell 5 rfl; have p6 := (HBk.out.below hw').cell 6 rfl; go_simp; rw [Gr.grown_value]) ?_
  refine Gr.line_norm fun K hK => ?_; go_simp; refine hK _ ?_; clear hK K
  refine Gr.line_step (.int .i64 6) (by go_simp; intro w' hw'; go_simp; rw [Gr.grown_enter]; exact Ret.fam (HLV.out w' (HW.out.trans (hw'.mono HW.out.size))) hw') ?_
  refine Gr.line_norm fun K hK => ?_; go_simp; refine hK _ ?_; clear hK K
  refine Gr.line_step (.int .i64 7) (by go_simp; intro w' hw'; go_simp; rw [Gr.grown_value]; all_goals rfl) ?_
  refine Gr.line_norm fun K hK => ?_; go_simp; refine hK _ ?_; clear hK K
  refine Gr.line_step _ (by go_simp; intro w' hw'; go_simp; rw [Gr.grown_value]) ?_
  refine Gr.line_norm fun K hK => ?_; go_simp; refine hK _ ?_; clear hK K
  refine Gr.line_nil fun w4 hw4 => ?_
  have HB4 := Lib.hid (HBk.out.below hw4)
  have HW4 := Lib.hid (HW.out.trans (hw4.mono HW.out.size))
  clear hw4 HBk HW HLV
  have p6 := HB4.out.cell 6 rfl
  obtain ⟨g, o, us, eq, hgl, hcell, hkx, hrx⟩ := HL.out.at_ (k := 0) (by omega)
  subst eq
  have HX : Hid (XR w l[0] us) := Lib.hid hrx
  obtain ⟨eop, eint, evk, evi, evs, enm, el, ee⟩ : ∃ eop eint evk evi evs enm el, l[0] = X.mk eop eint evk evi evs enm el := by
    cases l[0]
    exact ⟨_, _, _, _, _, _, _, rfl⟩
  have hrx2 := hrx
  have hrx2 : XR w (X.mk eop eint evk evi evs enm el) us := ee ▸ hrx
  obtain ⟨ea, em, rfl, _⟩ := hrx2.lits
  have rr : ∀ j (u : Value), ([.int .i64 eop, .int .i64 eint, .int .i64 evk, .int .i64 evi, .string ⟨evs.toArray⟩, .string ⟨enm.toArray⟩, .slice ea el.length em] : List Value)[j]? = some u → w4.cell? ⟨g, o + 0 * 7 + j, none⟩ = some u := fun j u hu => (HW4.out.cell (by exact hgl)).trans (hcell j u hu)
  have r0 := rr 0 _ rfl
  have r1 := rr 1 _ rfl
  have r2 := rr 2 _ rfl
  have r3 := rr 3 _ rfl
  have r4 := rr 4 _ rfl
  have r5 := rr 5 _ rfl
  have r6 := rr 6 _ rfl
  simp only [Nat.zero_mul, Nat.add_zero] at r0 r1 r2 r3 r4 r5 r6
  have gl : g < w4.heap.size := by have := HW4.out.size; omega
  clear rr hcell ee
  have HO1 := Lib.hid (HO.out l[0] (List.getElem_mem _) 6 _ w4 HW4.out (HX.out.kept HW4.out (Nat.le_refl _)))
  clear hrx hrx2 HX
  have c1 : (0 : Int) < ((q + 2 : Nat) : Int) := by omega
  go_wp2_with fail
  refine HO1.out.mono ?_
  rintro e w5 ⟨rfl, hw5⟩
  have HB5 := Lib.hid (HB4.out.below hw5)
  have HW5 := Lib.hid (HW4.out.trans (hw5.mono HW4.out.size))
  clear hw5 HB4 HW4 HO1 p6 r0 r1 r2 r3 r4 r5 r6
  go_upto_region 30 with (fail)
  refine name_row (K := Code.wp _ _ _ _) (B := w5.heap.size) (n := 1) (Nat.le_refl _) (by decide) rfl fun w6 hO6 hw6 => ?_
  have HO6 : Hid (OwnS w5.heap.size (.slice (some ⟨w5.heap.size, 0, none⟩) 1 1) (mF 6 7 sg (l[0]'(by omega)) ((l.drop 1).take 0)) w6) := Lib.hid hO6
  have HB6 := Lib.hid (HB5.out.below hw6)
  have HW6 := Lib.hid hw6
  clear hO6 hw6
  have p6 := HB6.out.cell 6 rfl
  have hqm1 : 1 ≤ q + 2 := by omega
  have hqm2 : (q : Int) + 2 ≤ (m : Int) := by omega
  have hqm3 : (1 : Int) ≤ (q : Int) + 2 := by omega
  have hdl : (l.drop 1).length = q + 1 := by rw [List.length_drop]; have := HQ.out; omega
  have HDL := Lib.hid hdl
  go_upto_region 31 with (fail)
  clear hdl p6
  go_loopw [5, 119] (fun v i wr => ChRel w5 (mF 6 7 sg (l[0]'(by omega))) (l.drop 1) v i wr) (fun _ i _ => (q + 1) - (intOf i).toNat)
  case atStart => exact ⟨0, Nat.zero_le _, rfl, HO6.out, HW6.out⟩
  case round =>
    obtain ⟨k, hk, rfl, ho, hb⟩ := hrel
    rw [HDL.out] at hk
    have HBr := Lib.hid hb
    have HB := Lib.hid (HW5.out.trans (hb.mono HW5.out.size))
    have HBc := Lib.hid (HB5.out.below hb)
    have HOk := Lib.hid ho
    have hlt2 : ∀ g, u5.ownBlock = some g → w5.heap.size ≤ g := fun g e => (ho.lt g e).1
    clear ho hb
    by_cases hlt : k < q + 1
    · have hlk : k + 1 < l.length := by have := HQ.out; omega
      have hdk : (l.drop 1)[k]'(by rw [HDL.out]; exact hlt) = l[k + 1] := by rw [List.getElem_drop]; simp only [Nat.add_comm]
      have HSN : Hid (mF 6 7 sg (l[0]'(by omega)) ((l.drop 1).take (k + 1)) = mF 6 7 sg (l[0]'(by omega)) ((l.drop 1).take k) ++ [sg, opd 7 l[k + 1]]) := Lib.hid (by rw [mF_snoc (by rw [HDL.out]; exact hlt), hdk])
      have HML : Hid ((mF 6 7 sg (l[0]'(by omega)) ((l.drop 1).take k)).length ≤ 2000001) := Lib.hid (by rw [mF_len, List.length_take]; omega)
      generalize mF 6 7 sg (l[0]'(by omega)) ((l.drop 1).take k) = M at HOk HSN HML
      obtain ⟨g', o', us, eq', hgl', hcell', hkx, hrx⟩ := HL.out.at_ (k := k + 1) (by omega)
      injection eq' with eq'
      injection eq' with eg eo
      subst eg eo
      have HX : Hid (XR w l[k + 1] us) := Lib.hid hrx
      have hmem := List.getElem_mem (l := l) hlk
      obtain ⟨fop, fint, fvk, fvi, fvs, fnm, fl, fe⟩ : ∃ eop eint evk evi evs enm el, l[k + 1] = X.mk eop eint evk evi evs enm el := by
        cases l[k + 1]
        exact ⟨_, _, _, _, _, _, _, rfl⟩
      have hrx2 : XR w (X.mk fop fint fvk fvi fvs fnm fl) us := fe ▸ hrx
      obtain ⟨fa, fm, rfl, _⟩ := hrx2.lits
      have rr : ∀ j (u : Value), ([.int .i64 fop, .int .i64 fint, .int .i64 fvk, .int .i64 fvi, .string ⟨fvs.toArray⟩, .string ⟨fnm.toArray⟩, .slice fa fl.length fm] : List Value)[j]? = some u → wr.cell? ⟨g, o + 7 + k * 7 + j, none⟩ = some u := fun j u hu => by
        rw [show o + 7 + k * 7 + j = o + (k + 1) * 7 + j by omega]
        exact (HB.out.cell (by exact hgl')).trans (hcell' j u hu)
      have r0 := rr 0 _ rfl
      have r1 := rr 1 _ rfl
      have r2 := rr 2 _ rfl
      have r3 := rr 3 _ rfl
      have r4 := rr 4 _ rfl
      have r5 := rr 5 _ rfl
      have r6 := rr 6 _ rfl
      simp only [Nat.add_zero] at r0
      have HO2 := Lib.hid fun (w' : World) (hw' : Below w.heap.size w w') => HO.out l[k + 1] hmem 7 _ w' hw' (HX.out.kept hw' (Nat.le_refl _))
      have c2 : (k : Int) < (q : Int) + 1 := by omega
      have c3 : (0 : Int) ≤ (k : Int) := by omega
      have d1 : decide ((k : Int) < (q : Int) + 1) = true := decide_eq_true c2
      have gl : g < wr.heap.size := by have := HB.out.size; omega
      generalize opd 7 l[k + 1] = y at HSN HO2
      clear rr hcell' hrx hrx2 hdk fe hgl'
      go_upto_region 33 with (fail)
      refine name_alloc (K := Code.wp _ _ _ _) fun w7 hX7 hw7 hz7 => ?_
      have HX7 := Lib.hid hX7
      have HB7 := Lib.hid (HB.out.trans (hw7.mono HB.out.size))
      have HBr7 := Lib.hid (HBr.out.trans (hw7.mono HBr.out.size))
      have HBc7 := Lib.hid (HBc.out.below hw7)
      have HO7 := Lib.hid (OwnS.below HOk.out hw7)
      clear hX7 hw7 hz7 HBr HBc HB HOk r0 r1 r2 r3 r4 r5 r6
      have hb0 : Below w7.heap.size w7 { w7 with drawn := w7.drawn + 1 } := belowD w7 1
      refine Gr.region_grow1 6 (by kernel_rfl) (by kernel_rfl) (fun w' => Below w7.heap.size w7 w') hb0 u5 rfl (fun w => rfl) (fun c a w h => h) ?_
      refine Gr.line_norm fun K hK => ?_; go_simp; refine hK _ ?_; clear hK K
      simp only [List.take_succ_cons, List.take_zero, List.drop_succ_cons, List.drop_zero]
      clear hb0
      refine Gr.line_step _ (by go_simp; intro w' hw'; go_simp; rw [Gr.grown_value]) ?_
      refine Gr.line_norm fun K hK => ?_; go_simp; refine hK _ ?_; clear hK K
      refine Gr.line_step _ (by go_simp; intro w' hw'; have p0 := (HBc7.out.below hw').cell 0 rfl; go_simp; rw [Gr.grown_value]) ?_
      refine Gr.line_norm fun K hK => ?_; go_simp; refine hK _ ?_; clear hK K
      refine Gr.line_step (.string ⟨sg.toArray⟩) (by go_simp; intro w' hw'; go_simp; rw [Gr.grown_enter]; exact Ret.fam (HSG.out w') hw') ?_
      refine Gr.line_norm fun K hK => ?_; go_simp; refine hK _ ?_; clear hK K
      refine Gr.line_step _ (by go_simp; intro w' hw'; have x0 := (HX7.out.below hw').cell 0 rfl; have x1 := (HX7.out.below hw').cell 1 rfl; have x2 := (HX7.out.below hw').cell 2 rfl; have x3 := (HX7.out.below hw').cell 3 rfl; have x4 := (HX7.out.below hw').cell 4 rfl; have x5 := (HX7.out.below hw').cell 5 rfl; have x6 := (HX7.out.below hw').cell 6 rfl; go_simp; rw [Gr.grown_value]) ?_
      refine Gr.line_norm fun K hK => ?_; go_simp; refine hK _ ?_; clear hK K
      refine Gr.line_step _ (by go_simp; intro w' hw'; go_simp; rw [Gr.grown_value]) ?_
      refine Gr.line_norm fun K hK => ?_; go_simp; refine hK _ ?_; clear hK K
      refine Gr.line_step (.string ⟨y.toArray⟩) (by go_simp; intro w' hw'; go_simp; rw [Gr.grown_enter]; exact Ret.fam (HO2.out w' (HB7.out.trans (hw'.mono HB7.out.size))) hw') ?_
      refine Gr.line_norm fun K hK => ?_; go_simp; refine hK _ ?_; clear hK K
      refine Gr.line_nil fun w8 hw8 => ?_
      have HBr8 := Lib.hid (HBr7.out.trans (hw8.mono HBr7.out.size))
      have HO8 := Lib.hid (OwnS.below HO7.out hw8)
      clear hw8 HX7 HB7 HBr7 HBc7 HO7 HO2
      go_wp2_with (at_builtin; refine wpList_append_own_at _ rfl (.tmp 123) (.tmp 130) 111 rfl w5.heap.size 9 i0 _ 1 16 Tryz.underlying111 hi0 hz0 hz1 hz2 rfl (by omega) u5 M.length _ rfl (World.ownsRow.alloc HO8.out _) ⟨w8.heap.size, 0, none⟩ 2 2 [.string ⟨sg.toArray⟩, .string ⟨y.toArray⟩] rfl rfl (cell_lit2 _ _ _ _) (fun u hu => by simp only [List.mem_cons, List.not_mem_nil, or_false] at hu; rcases hu with rfl | rfl <;> rfl) (by unfold maxLen; have := HML.out; omega) (by have := HML.out; omega) (Nat.le_trans HBr8.out.size (by simp)) ?_)
      intro v3 w9 hown3 hg3 _ hat3
      have hb9 : Below w5.heap.size w5 w9 := (HBr8.out.alloc HBr8.out.size _).grown hg3 (Nat.le_trans HBr8.out.size (by simp)) hlt2
      have HO9 : Hid (OwnS w5.heap.size v3 (mF 6 7 sg (l[0]'(by omega)) ((l.drop 1).take (k + 1))) w9) := Lib.hid (by rw [HSN.out]; exact OwnS.snoc2 hown3)
      clear hown3 hg3 hat3
      go_wp2_with fail
      go_roundw
      case rel => exact ⟨k + 1, by rw [HDL.out]; omega, by go_num, HO9.out, hb9⟩
      case measure => simp [intOf]; omega
    · obtain rfl : k = q + 1 := by omega
      have htk : (l.drop 1).take (q + 1) = l.drop 1 := List.take_of_length_le (by rw [HDL.out]; exact Nat.le_refl _)
      have ho := HOk.out
      rw [htk] at ho
      have HMN : Hid ((mF 6 7 sg (l[0]'(by omega)) (l.drop 1)).length ≤ 1099511627776) := Lib.hid (by rw [mF_len, HDL.out]; omega)
      generalize mF 6 7 sg (l[0]'(by omega)) (l.drop 1) = M at ho HJ HT HLN HMN
      obtain ⟨a2, c2, rfl, hs⟩ := ho.form
      have HJN := join_call M a2 c2 wr HMN.out hs (by rw [HJ.out]; have := HLN.out; omega)
      rw [HJ.out, ← HT.out] at HJN
      have HJ2 := Lib.hid (Ret.at_ HJN HB.out)
      have d1 : decide ((q : Int) + 1 < (q : Int) + 1) = false := decide_eq_false (by omega)
      clear ho hs HJN HOk HJ HT HLN HMN htk
      go_wp2_with fail
      refine HJ2.out.mono ?_
      rintro e w9 ⟨rfl, hw9⟩
      go_wp2_with fail
      go_ret
      exact ⟨rfl, hw9⟩
end Go.Proofs.YtlimlmjljjmcpaaGreatDoor.Px

/-
  An expression's text: the program's.
-/
namespace Go.Proofs.YtlimlmjljjmcpaaGreatDoor.Px
open Go Go.RowKit Go.Proofs.YtlimlmjljjmcpaaGreatDoor.Ps
set_option linter.unusedVariables false
set_option linter.unusedSimpArgs false
theorem level_in {op vk vi : Int} {n : Nat} (h : argsB op n = true) (hc : Chain op) : levelOf op vk vi = 1 ∨ levelOf op vk vi = 2 ∨ levelOf op vk vi = 4 ∨ levelOf op vk vi = 5 ∨ levelOf op vk vi = 6 := by
  obtain ⟨n1, n2, n3, n4, n5, n6, n7, n8, n9, n10⟩ := hc
  unfold argsB at h
  rw [if_neg (by omega), if_neg (by omega)] at h
  unfold levelOf
  by_cases h1 : op = 6
  · rw [if_pos h1]; exact .inl rfl
  rw [if_neg h1]
  by_cases h2 : op = 5
  · rw [if_pos h2]; exact .inr (.inl rfl)
  rw [if_neg h2, if_neg n6]
  rw [if_neg (by omega), if_neg (by omega), if_neg (by omega)] at h
  split at h
  · rename_i h3
    by_cases h4 : op = 7 ∨ op = 8 ∨ op = 9 ∨ op = 10 ∨ op = 11 ∨ op = 12 ∨ op = 21 ∨ op = 25
    · rw [if_pos h4]; exact .inr (.inr (.inl rfl))
    rw [if_neg h4]
    by_cases h5 : op = 13 ∨ op = 14 ∨ op = 19
    · rw [if_pos h5]; exact .inr (.inr (.inr (.inl rfl)))
    rw [if_neg h5, if_pos (by omega)]
    exact .inr (.inr (.inr (.inr rfl)))
  · cases h
set_option maxHeartbeats 4000000 in
theorem expression_call : ∀ (N : Nat) (x : X) (cs : List Value) (w : World), nodes x ≤ N → N ≤ 1000000 → pOk x = true → Env w → XR w x cs → Calls Tryz.prog 27 #[.agg cs.toArray] w (Ret w (.string ⟨(txt x).toArray⟩))
  | 0, x, _, _, h, _, _, _, _ => absurd (nodes_pos x) (by omega)
  | N + 1, .mk op int vk vi vs nm l, cs, w, hn, hN, hp, hE, h => by
    have hn2 : nodes (.mk op int vk vi vs nm l) ≤ 1000000 := by omega
    rw [nodes] at hn
    obtain ⟨ha, hpl, _, _⟩ := pok_args hp
    have HI : ∀ x ∈ l, ∀ (cs : List Value) (w' : World), Below w.heap.size w w' → XR w' x cs → Calls Tryz.prog 27 #[.agg cs.toArray] w' (Ret w' (.string ⟨(txt x).toArray⟩)) :=
      fun x hx cs w' hw' hr => expression_call N x cs w' (by have := nodesL_mem hx; omega) (by omega) (hpl x hx) (hE.below hw') hr
    have HO : ∀ x ∈ l, ∀ (n : Int) (cs : List Value) (w' : World), Below w.heap.size w w' → XR w' x cs → Calls Tryz.prog 67 #[.agg cs.toArray, .int .i64 n] w' (Ret w' (.string ⟨(opd n x).toArray⟩)) :=
      fun x hx n cs w' hw' hr => operand_call n hr (by have := opd_short hn2 (n := 0) (hpl x hx) hx; rw [opd_zero] at this; omega) (fun w2 hw2 => HI x hx cs w2 (hw'.trans (hw2.mono hw'.size)) (hr.kept hw2 (Nat.le_refl _)))
    by_cases c1 : op = 1
    · subst c1; exact exp_const int vk vi vs nm l cs w hp hE h
    by_cases c3 : op = 3
    · subst c3; exact exp_name int vk vi vs nm l cs w hp hE h
    by_cases c26 : op = 26
    · subst c26; exact exp_period int vk vi vs nm l cs w hp hE h
    by_cases c25 : op = 25
    · subst c25; exact exp_rel int vk vi vs nm l cs w hp hE h
    by_cases c21 : op = 21
    · subst c21; exact exp_isnull int vk vi vs nm l cs w hp hE h hn2 HO
    by_cases c4 : op = 4
    · subst c4; exact exp_not int vk vi vs nm l cs w hp hE h hn2 HO
    by_cases c18 : op = 18
    · subst c18; exact exp_neg int vk vi vs nm l cs w hp hE h hn2 HI HO
    by_cases c22 : op = 22
    · subst c22; exact exp_if int vk vi vs nm l cs w hp hE h hn2 HI
    by_cases c23 : op = 23
    · subst c23; exact exp_coalesce int vk vi vs nm l cs w hp hE h hn2 HI
    by_cases c20 : op = 20
    · subst c20; exact exp_length int vk vi vs nm l cs w hp hE h hn2 HI
    have hc : Chain op := ⟨c1, c3, c26, c25, c21, c4, c18, c22, c23, c20⟩
    rcases level_in (vk := vk) (vi := vi) ha hc with e | e | e | e | e
    · exact exp_chain_1 op int vk vi vs nm l cs w hc e hn2 hp hE h HO
    · exact exp_chain_2 op int vk vi vs nm l cs w hc e hn2 hp hE h HO
    · exact exp_chain_4 op int vk vi vs nm l cs w hc e hn2 hp hE h HO
    · exact exp_chain_5 op int vk vi vs nm l cs w hc e hn2 hp hE h HO
    · exact exp_chain_6 op int vk vi vs nm l cs w hc e hn2 hp hE h HO
end Go.Proofs.YtlimlmjljjmcpaaGreatDoor.Px
