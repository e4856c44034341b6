/-
  The reference's Printable; both Expressions; the walk of the law PrinterExpressions. (Printed by gen_pxlaw.py.)
-/
import Derived.Test.YtlimlmjljjmcpaaGreatDoorPxR
import Derived.Test.YtlimlmjljjmcpaaGreatDoorPsAwk
namespace Go.Proofs.YtlimlmjljjmcpaaGreatDoor.Px
open Go Go.RowKit Go.Proofs.YtlimlmjljjmcpaaGreatDoor.Ps
set_option linter.unusedVariables false
set_option linter.unusedSimpArgs false
theorem roks_snoc {l : List X} {k : Nat} (h : k < l.length) (h1 : rOks (l.take k) = true) (h2 : rOk l[k] = true) : rOks (l.take (k + 1)) = true := by
  rw [rOks_iff] at h1 ⊢
  rw [List.take_succ_eq_append_getElem h, List.all_append, h1, List.all_cons, h2]
  rfl
theorem roks_bad {l : List X} {k : Nat} (h : k < l.length) (h2 : rOk l[k] = false) : rOks l = false := by
  rw [rOks_iff]
  exact Bool.eq_false_iff.2 fun hh => by
    have := List.all_eq_true.1 hh _ (List.getElem_mem h)
    rw [h2] at this
    cases this
theorem rok_def (op int vk vi : Int) (vs nm : S) (l : List X) : rOk (.mk op int vk vi vs nm l) = (ownB op int vk vi vs nm l && rOks l) := by rw [rOk]
set_option maxRecDepth 100000 in
set_option maxHeartbeats 20000000 in
theorem rprintable_step (N : Nat) (HI : ∀ (x : X) (cs : List Value) (w : World), nodes x ≤ N → shortX x → XR w x cs → Calls Tryz.prog 29 #[.agg cs.toArray] w (Ret w (.bool (rOk x))))
    (op int vk vi : Int) (vs nm : S) (l : List X) (cs : List Value) (w : World) (hn : nodesL l ≤ N) (hsh : vs.length < 4294967281 ∧ nm.length < 4294967281) (hshl : shortL l) (h : XR w (.mk op int vk vi vs nm l) cs) :
    Calls Tryz.prog 29 #[.agg cs.toArray] w (Ret w (.bool (rOk (.mk op int vk vi vs nm l)))) := by
  have HI := Lib.hid HI
  have HSH := Lib.hid hshl
  have HPD := Lib.hid (rok_def op int vk vi vs nm l)
  have HOW := Lib.hid fun (w' : World) (hw' : Below w.heap.size w w') => own_call op int vk vi vs nm l cs w' hsh hshl (h.kept hw' (Nat.le_refl _))
  obtain ⟨a, m, rfl, hl, hvs, hnm, hlen⟩ := h.lits
  have HL := Lib.hid hl
  clear h hl hshl hsh
  generalize ownB op int vk vi vs nm l = OB at HPD HOW
  generalize rOk (.mk op int vk vi vs nm l) = ANS at HPD ⊢
  go_enter Tryz.func29, Tryz.ntmps29
  go_upto_region 1 with (fail)
  refine name_alloc (K := Code.wp _ _ _ _) fun w1 hB hw1 hz1 => ?_
  have HW := Lib.hid hw1
  have HBk := Lib.hid hB
  have p0 := hB.cell 0 rfl
  have p1 := hB.cell 1 rfl
  have p2 := hB.cell 2 rfl
  have p3 := hB.cell 3 rfl
  have p4 := hB.cell 4 rfl
  have p5 := hB.cell 5 rfl
  have p6 := hB.cell 6 rfl
  clear hB hw1
  go_wp2_with fail
  refine (HOW.out w1 HW.out).mono ?_
  rintro e w2 ⟨rfl, hw2⟩
  have HB2 := Lib.hid (HBk.out.below hw2)
  have HW2 := Lib.hid (HW.out.trans (hw2.mono HW.out.size))
  clear hw2 p0 p1 p2 p3 p4 p5 p6 HBk HW HOW
  cases OB with
  | false =>
    go_wp2_with fail
    go_ret
    exact ⟨by rw [HPD.out]; rfl, HW2.out⟩
  | true =>
    have HPK : Hid (ANS = rOks l) := Lib.hid (by rw [HPD.out]; rfl)
    clear HPD
    go_upto_region 4 with (fail)
    go_loopw [3] (fun i wr => ∃ k : Nat, k ≤ l.length ∧ i = .int .i64 (k : Int) ∧ rOks (l.take k) = true ∧ Below w2.heap.size w2 wr) (fun i _ => l.length - (intOf i).toNat)
    case atStart => exact ⟨0, Nat.zero_le _, rfl, rfl, Below.refl _ _⟩
    case round =>
      obtain ⟨k, hk, rfl, ht, hb⟩ := hrel
      have HT := Lib.hid ht
      have HB := Lib.hid hb
      have HWb := Lib.hid (HW2.out.trans (hb.mono HW2.out.size))
      have p6 := (HB2.out.below hb).cell 6 rfl
      clear ht hb
      by_cases hlt : k < l.length
      · obtain ⟨g, o, us, eq, hec, hkx, hrx⟩ := HL.out.ec hlt
        subst eq
        have HX : Hid (XR w l[k] us) := Lib.hid hrx
        obtain ⟨eop, eint, evk, evi, evs, enm, el, ee⟩ : ∃ eop eint evk evi evs enm el, l[k] = X.mk eop eint evk evi evs enm el := by
          cases l[k]
          exact ⟨_, _, _, _, _, _, _, rfl⟩
        have hrx2 : XR w (X.mk eop eint evk evi evs enm el) us := ee ▸ hrx
        obtain ⟨ea, em, rfl, _⟩ := hrx2.lits
        have r0 := hec.at0 HWb.out (u := _) rfl
        have r1 := hec.at_ HWb.out (j := 1) rfl
        have r2 := hec.at_ HWb.out (j := 2) rfl
        have r3 := hec.at_ HWb.out (j := 3) rfl
        have r4 := hec.at_ HWb.out (j := 4) rfl
        have r5 := hec.at_ HWb.out (j := 5) rfl
        have r6 := hec.at_ HWb.out (j := 6) rfl
        have gl : g < wr.heap.size := by have := HWb.out.size; have := hec.1; omega
        have hle := nodesL_mem (List.getElem_mem (l := l) hlt)
        have hsx := short_mem HSH.out (List.getElem_mem (l := l) hlt)
        have HC := Lib.hid (HI.out l[k] _ wr (by omega) hsx (HX.out.kept HWb.out (Nat.le_refl _)))
        have c2 : (k : Int) < (l.length : Int) := by omega
        have c3 : (0 : Int) ≤ (k : Int) := by omega
        have HF0 := Lib.hid (fun h => roks_bad (l := l) (k := k) hlt h)
        have HF1 := Lib.hid (fun h => roks_snoc (l := l) (k := k) hlt HT.out h)
        clear hec hrx hrx2 ee HX hsx hle
        generalize rOk l[k] = b at HC HF0 HF1
        go_wp2_with fail
        refine HC.out.mono ?_
        rintro e' w4 ⟨rfl, hw4⟩
        have HB4 := Lib.hid (HB.out.trans (hw4.mono HB.out.size))
        have HW4 := Lib.hid (HWb.out.trans (hw4.mono HWb.out.size))
        clear hw4
        cases b with
        | false =>
          have HFF := Lib.hid (HF0.out rfl)
          go_wp2_with fail
          go_ret
          exact ⟨by rw [HPK.out, HFF.out]; rfl, HW4.out⟩
        | true =>
          have HFF := Lib.hid (HF1.out rfl)
          go_wp2_with fail
          go_roundw
          case rel => exact ⟨k + 1, by omega, by go_num, HFF.out, HB4.out⟩
          case measure => simp [intOf]; omega
      · obtain rfl : k = l.length := by omega
        have HA : Hid (ANS = true) := Lib.hid (by rw [HPK.out]; have := HT.out; rwa [List.take_length] at this)
        have d1 : decide ((l.length : Int) < (l.length : Int)) = false := decide_eq_false (by omega)
        clear HT
        go_wp2_with fail
        go_ret
        exact ⟨by rw [HA.out]; rfl, HWb.out⟩
theorem rprintable_call : ∀ (N : Nat) (x : X) (cs : List Value) (w : World), nodes x ≤ N → shortX x → XR w x cs → Calls Tryz.prog 29 #[.agg cs.toArray] w (Ret w (.bool (rOk x)))
  | 0, x, _, _, h, _, _ => absurd (nodes_pos x) (by omega)
  | N + 1, .mk op int vk vi vs nm l, cs, w, hn, hs, h => by
    rw [nodes] at hn
    rw [shortX] at hs
    exact rprintable_step N (fun x cs w h1 h2 h3 => rprintable_call N x cs w h1 h2 h3) op int vk vi vs nm l cs w (by omega) hs.1 hs.2 h
/-! ### both Expressions -/
def fin (s : S) : S × Int := if 65536 < s.length then ([], 5) else (s, 0)
def exprR (x : X) : S × Int := if 24 < dep x then ([], 26) else if pOk x then fin (txt x) else ([], 8)
def TupSI (q : S × Int) : Value := .tuple #[.string ⟨q.1.toArray⟩, .int .i64 q.2]
set_option maxRecDepth 100000 in
set_option maxHeartbeats 4000000 in
theorem finished_call (s : S) (w : World) : Calls Tryz.prog 26 #[.string ⟨s.toArray⟩] w (Ret w (TupSI (fin s))) := by
  have hsz := mkS s
  by_cases h : 65536 < s.length
  · have HF : Hid (fin s = ([], 5)) := Lib.hid (by unfold fin; rw [if_pos h])
    have c : (65536 : Int) < (s.length : Int) := by omega
    rw [HF.out]
    go_enter Tryz.func26, Tryz.ntmps26
    go_wp2_with fail
    go_ret2
    exact ⟨rfl, Below.refl _ _⟩
  · have HF : Hid (fin s = (s, 0)) := Lib.hid (by unfold fin; rw [if_neg h])
    have c : ¬ (65536 : Int) < (s.length : Int) := by omega
    rw [HF.out]
    go_enter Tryz.func26, Tryz.ntmps26
    go_wp2_with fail
    go_ret2
    exact ⟨rfl, Below.refl _ _⟩
set_option maxRecDepth 100000 in
set_option maxHeartbeats 4000000 in
theorem limited_call (s : S) (w : World) : Calls Tryz.prog 30 #[.string ⟨s.toArray⟩] w (Ret w (TupSI (fin s))) := by
  have hsz := mkS s
  by_cases h : 65536 < s.length
  · have HF : Hid (fin s = ([], 5)) := Lib.hid (by unfold fin; rw [if_pos h])
    have c : (65536 : Int) < (s.length : Int) := by omega
    rw [HF.out]
    go_enter Tryz.func30, Tryz.ntmps30
    go_wp2_with fail
    go_ret2
    exact ⟨rfl, Below.refl _ _⟩
  · have HF : Hid (fin s = (s, 0)) := Lib.hid (by unfold fin; rw [if_neg h])
    have c : ¬ (65536 : Int) < (s.length : Int) := by omega
    rw [HF.out]
    go_enter Tryz.func30, Tryz.ntmps30
    go_wp2_with fail
    go_ret2
    exact ⟨rfl, Below.refl _ _⟩
set_option maxRecDepth 100000 in
set_option maxHeartbeats 8000000 in
theorem Expression_call (x : X) (cs : List Value) (w : World) (hn : nodes x ≤ 2000) (hs : shortX x) (hE : Env w) (h : XR w x cs) : Calls Tryz.prog 10 #[.agg cs.toArray] w (Ret w (TupSI (exprR x))) := by
  have HD := Lib.hid fun (w' : World) (hw' : Below w.heap.size w w') => Depth_call x cs w' (by omega) (h.kept hw' (Nat.le_refl _))
  have HP : Hid (∀ w' : World, Below w.heap.size w w' → Calls Tryz.prog 25 #[.agg cs.toArray] w' (Ret w' (.bool (pOk x)))) := Lib.hid fun w' hw' => printable_call 2000 x cs w' hn (by omega) hs (hE.below hw') (h.kept hw' (Nat.le_refl _))
  have HT := Lib.hid fun (hp : pOk x = true) (w' : World) (hw' : Below w.heap.size w w') => expression_call 2000 x cs w' hn (by omega) hp (hE.below hw') (h.kept hw' (Nat.le_refl _))
  have HR : Hid (exprR x = if 24 < dep x then ([], 26) else if pOk x then fin (txt x) else ([], 8)) := Lib.hid rfl
  generalize exprR x = R at HR ⊢
  generalize pOk x = ok at HP HT HR
  generalize txt x = tx at HT HR
  generalize dep x = d at HD HR
  obtain ⟨op, int, vk, vi, vs, nm, l⟩ := x
  obtain ⟨a, m, rfl, hl, _, _, _⟩ := h.lits
  clear h hl hs hE hn
  go_enter Tryz.func10, Tryz.ntmps10
  go_upto_region 1 with (fail)
  refine name_alloc (K := Code.wp _ _ _ _) fun w1 hB hw1 hz1 => ?_
  have HW := Lib.hid hw1
  have HBk := Lib.hid hB
  have p0 := hB.cell 0 rfl
  have p1 := hB.cell 1 rfl
  have p2 := hB.cell 2 rfl
  have p3 := hB.cell 3 rfl
  have p4 := hB.cell 4 rfl
  have p5 := hB.cell 5 rfl
  have p6 := hB.cell 6 rfl
  clear hB hw1 hz1
  go_wp2_with fail
  refine (HD.out w1 HW.out).mono ?_
  rintro e w2 ⟨rfl, hw2⟩
  have HB2 := Lib.hid (HBk.out.below hw2)
  have HW2 := Lib.hid (HW.out.trans (hw2.mono HW.out.size))
  clear hw2 HBk HW HD p0 p1 p2 p3 p4 p5 p6
  by_cases hd : 24 < d
  · have HA : Hid (R = ([], 26)) := Lib.hid (by rw [HR.out, if_pos hd])
    have e25 : min d 25 = 25 := by omega
    rw [e25]
    clear HR hd e25
    go_wp2_with fail
    go_ret2
    exact ⟨by rw [HA.out]; rfl, HW2.out⟩
  · have c1 : ¬ (24 : Int) < ((min d 25 : Nat) : Int) := by omega
    generalize min d 25 = dd at c1 ⊢
    have HA : Hid (R = if ok then fin tx else ([], 8)) := Lib.hid (by rw [HR.out, if_neg hd])
    clear HR hd
    have p0 := HB2.out.cell 0 rfl
    have p1 := HB2.out.cell 1 rfl
    have p2 := HB2.out.cell 2 rfl
    have p3 := HB2.out.cell 3 rfl
    have p4 := HB2.out.cell 4 rfl
    have p5 := HB2.out.cell 5 rfl
    have p6 := HB2.out.cell 6 rfl
    go_wp2_with fail
    refine (HP.out w2 HW2.out).mono ?_
    rintro e w3 ⟨rfl, hw3⟩
    have HB3 := Lib.hid (HB2.out.below hw3)
    have HW3 := Lib.hid (HW2.out.trans (hw3.mono HW2.out.size))
    clear hw3 HB2 HW2 HP p0 p1 p2 p3 p4 p5 p6
    cases ok with
    | false =>
      have HA2 : Hid (R = ([], 8)) := Lib.hid HA.out
      clear HA
      go_wp2_with fail
      go_ret2
      exact ⟨by rw [HA2.out]; rfl, HW3.out⟩
    | true =>
      have HA2 : Hid (R = fin tx) := Lib.hid HA.out
      have HT3 := Lib.hid (HT.out rfl w3 HW3.out)
      clear HA HT
      have p0 := HB3.out.cell 0 rfl
      have p1 := HB3.out.cell 1 rfl
      have p2 := HB3.out.cell 2 rfl
      have p3 := HB3.out.cell 3 rfl
      have p4 := HB3.out.cell 4 rfl
      have p5 := HB3.out.cell 5 rfl
      have p6 := HB3.out.cell 6 rfl
      go_wp2_with fail
      refine HT3.out.mono ?_
      rintro e w4 ⟨rfl, hw4⟩
      have HW4 := Lib.hid (HW3.out.trans (hw4.mono HW3.out.size))
      have HFN := Lib.hid (finished_call tx w4)
      clear hw4 HT3 HB3 HW3 p0 p1 p2 p3 p4 p5 p6
      generalize fin tx = q at HFN HA2
      obtain ⟨q1, q2⟩ := q
      go_wp2_with fail
      refine HFN.out.mono ?_
      rintro e w5 ⟨rfl, hw5⟩
      have HW5 := Lib.hid (HW4.out.trans (hw5.mono HW4.out.size))
      clear hw5
      unfold TupSI
      go_wp2_with fail
      go_ret2
      exact ⟨by rw [HA2.out]; rfl, HW5.out⟩
set_option maxRecDepth 100000 in
set_option maxHeartbeats 8000000 in
theorem RExpression_call (x : X) (cs : List Value) (w : World) (hn : nodes x ≤ 2000) (hs : shortX x) (hE : Env w) (h : XR w x cs) : Calls Tryz.prog 11 #[.agg cs.toArray] w (Ret w (TupSI (exprR x))) := by
  have HD := Lib.hid fun (w' : World) (hw' : Below w.heap.size w w') => rDepth_call x cs w' (by omega) (h.kept hw' (Nat.le_refl _))
  have HP : Hid (∀ w' : World, Below w.heap.size w w' → Calls Tryz.prog 29 #[.agg cs.toArray] w' (Ret w' (.bool (pOk x)))) := Lib.hid fun w' hw' => (by rw [ok_eq 2000 x hn (by omega)]; exact rprintable_call 2000 x cs w' hn hs (h.kept hw' (Nat.le_refl _)))
  have HT := Lib.hid fun (hp : pOk x = true) (w' : World) (hw' : Below w.heap.size w w') => rtext_call 2000 x cs w' hn (by omega) hp (hE.below hw') (h.kept hw' (Nat.le_refl _))
  have HR : Hid (exprR x = if 24 < dep x then ([], 26) else if pOk x then fin (txt x) else ([], 8)) := Lib.hid rfl
  generalize exprR x = R at HR ⊢
  generalize pOk x = ok at HP HT HR
  generalize txt x = tx at HT HR
  generalize dep x = d at HD HR
  obtain ⟨op, int, vk, vi, vs, nm, l⟩ := x
  obtain ⟨a, m, rfl, hl, _, _, _⟩ := h.lits
  clear h hl hs hE hn
  go_enter Tryz.func11, Tryz.ntmps11
  go_upto_region 1 with (fail)
  refine name_alloc (K := Code.wp _ _ _ _) fun w1 hB hw1 hz1 => ?_
  have HW := Lib.hid hw1
  have HBk := Lib.hid hB
  have p0 := hB.cell 0 rfl
  have p1 := hB.cell 1 rfl
  have p2 := hB.cell 2 rfl
  have p3 := hB.cell 3 rfl
  have p4 := hB.cell 4 rfl
  have p5 := hB.cell 5 rfl
  have p6 := hB.cell 6 rfl
  clear hB hw1 hz1
  go_wp2_with fail
  refine (HD.out w1 HW.out).mono ?_
  rintro e w2 ⟨rfl, hw2⟩
  have HB2 := Lib.hid (HBk.out.below hw2)
  have HW2 := Lib.hid (HW.out.trans (hw2.mono HW.out.size))
  clear hw2 HBk HW HD p0 p1 p2 p3 p4 p5 p6
  by_cases hd : 24 < d
  · have HA : Hid (R = ([], 26)) := Lib.hid (by rw [HR.out, if_pos hd])
    have e25 : min d 25 = 25 := by omega
    rw [e25]
    clear HR hd e25
    go_wp2_with fail
    go_ret2
    exact ⟨by rw [HA.out]; rfl, HW2.out⟩
  · have c1 : ¬ (24 : Int) < ((min d 25 : Nat) : Int) := by omega
    generalize min d 25 = dd at c1 ⊢
    have HA : Hid (R = if ok then fin tx else ([], 8)) := Lib.hid (by rw [HR.out, if_neg hd])
    clear HR hd
    have p0 := HB2.out.cell 0 rfl
    have p1 := HB2.out.cell 1 rfl
    have p2 := HB2.out.cell 2 rfl
    have p3 := HB2.out.cell 3 rfl
    have p4 := HB2.out.cell 4 rfl
    have p5 := HB2.out.cell 5 rfl
    have p6 := HB2.out.cell 6 rfl
    go_wp2_with fail
    refine (HP.out w2 HW2.out).mono ?_
    rintro e w3 ⟨rfl, hw3⟩
    have HB3 := Lib.hid (HB2.out.below hw3)
    have HW3 := Lib.hid (HW2.out.trans (hw3.mono HW2.out.size))
    clear hw3 HB2 HW2 HP p0 p1 p2 p3 p4 p5 p6
    cases ok with
    | false =>
      have HA2 : Hid (R = ([], 8)) := Lib.hid HA.out
      clear HA
      go_wp2_with fail
      go_ret2
      exact ⟨by rw [HA2.out]; rfl, HW3.out⟩
    | true =>
      have HA2 : Hid (R = fin tx) := Lib.hid HA.out
      have HT3 := Lib.hid (HT.out rfl w3 HW3.out)
      clear HA HT
      have p0 := HB3.out.cell 0 rfl
      have p1 := HB3.out.cell 1 rfl
      have p2 := HB3.out.cell 2 rfl
      have p3 := HB3.out.cell 3 rfl
      have p4 := HB3.out.cell 4 rfl
      have p5 := HB3.out.cell 5 rfl
      have p6 := HB3.out.cell 6 rfl
      go_wp2_with fail
      refine HT3.out.mono ?_
      rintro e w4 ⟨rfl, hw4⟩
      have HW4 := Lib.hid (HW3.out.trans (hw4.mono HW3.out.size))
      have HFN := Lib.hid (limited_call tx w4)
      clear hw4 HT3 HB3 HW3 p0 p1 p2 p3 p4 p5 p6
      generalize fin tx = q at HFN HA2
      obtain ⟨q1, q2⟩ := q
      go_wp2_with fail
      refine HFN.out.mono ?_
      rintro e w5 ⟨rfl, hw5⟩
      have HW5 := Lib.hid (HW4.out.trans (hw5.mono HW4.out.size))
      clear hw5
      unfold TupSI
      go_wp2_with fail
      go_ret2
      exact ⟨by rw [HA2.out]; rfl, HW5.out⟩
/-! ### the law -/
set_option maxRecDepth 100000 in
set_option maxHeartbeats 8000000 in
theorem expressions_walk (x : X) (cs : List Value) (w : World) (hn : nodes x ≤ 1048576) (hs : shortX x) (hE : Env w) (ht : Ax.TabW w) (h : XR w x cs) : Calls Tryz.prog 3 #[.agg cs.toArray] w fun e w' => e = .returned (.bool true) ∧ Below w.heap.size w w' := by
  have HT := Lib.hid fun (w' : World) (hw' : Below w.heap.size w w') => Ax.awake_call w' (Ax.tabW_below ht hw')
  have HN := Lib.hid fun (w' : World) (hw' : Below w.heap.size w w') => nodes_call (nodes x) x cs w' (Nat.le_refl _) (by omega) (h.kept hw' (Nat.le_refl _))
  have HA := Lib.hid fun (h2 : nodes x ≤ 2000) (w' : World) (hw' : Below w.heap.size w w') => Expression_call x cs w' h2 hs (hE.below hw') (h.kept hw' (Nat.le_refl _))
  have HB := Lib.hid fun (h2 : nodes x ≤ 2000) (w' : World) (hw' : Below w.heap.size w w') => RExpression_call x cs w' h2 hs (hE.below hw') (h.kept hw' (Nat.le_refl _))
  generalize nodes x = nd at HN HA HB hn
  generalize exprR x = q at HA HB
  obtain ⟨q1, q2⟩ := q
  obtain ⟨op, int, vk, vi, vs, nm, l⟩ := x
  obtain ⟨a, m, rfl, hl, _, _, _⟩ := h.lits
  clear h hl hs hE ht
  go_enter Tryz.func3, Tryz.ntmps3
  go_upto_region 1 with (fail)
  refine name_alloc (K := Code.wp _ _ _ _) fun w1 hB hw1 hz1 => ?_
  have HW := Lib.hid hw1
  have HBk := Lib.hid hB
  have p0 := hB.cell 0 rfl
  have p1 := hB.cell 1 rfl
  have p2 := hB.cell 2 rfl
  have p3 := hB.cell 3 rfl
  have p4 := hB.cell 4 rfl
  have p5 := hB.cell 5 rfl
  have p6 := hB.cell 6 rfl
  clear hB hw1 hz1
  go_wp2_with fail
  refine (HN.out w1 HW.out).mono ?_
  rintro e w2 ⟨rfl, hw2⟩
  have HB2 := Lib.hid (HBk.out.below hw2)
  have HW2 := Lib.hid (HW.out.trans (hw2.mono HW.out.size))
  clear hw2 HBk HW HN p0 p1 p2 p3 p4 p5 p6
  by_cases hc : 2000 < nd
  · have c1 : (2000 : Int) < (nd : Int) := by omega
    have HT2 := Lib.hid (HT.out w2 HW2.out)
    clear HA HB HT hc
    go_wp2_with fail
    refine HT2.out.mono ?_
    rintro e w3 ⟨rfl, hw3⟩
    have HW3 := Lib.hid (HW2.out.trans (hw3.mono HW2.out.size))
    clear hw3
    go_wp2_with fail
    go_ret
    exact ⟨rfl, HW3.out⟩
  · have c1 : ¬ (2000 : Int) < (nd : Int) := by omega
    have HA2 := Lib.hid (HA.out (by omega) w2 HW2.out)
    have HBB := Lib.hid (HB.out (by omega))
    clear HA HB hc
    have p0 := HB2.out.cell 0 rfl
    have p1 := HB2.out.cell 1 rfl
    have p2 := HB2.out.cell 2 rfl
    have p3 := HB2.out.cell 3 rfl
    have p4 := HB2.out.cell 4 rfl
    have p5 := HB2.out.cell 5 rfl
    have p6 := HB2.out.cell 6 rfl
    go_wp2_with fail
    refine HA2.out.mono ?_
    rintro e w3 ⟨rfl, hw3⟩
    have HB3 := Lib.hid (HB2.out.below hw3)
    have HW3 := Lib.hid (HW2.out.trans (hw3.mono HW2.out.size))
    clear hw3 HA2 HB2 HW2 p0 p1 p2 p3 p4 p5 p6
    have HB4 := Lib.hid (HBB.out w3 HW3.out)
    clear HBB
    have p0 := HB3.out.cell 0 rfl
    have p1 := HB3.out.cell 1 rfl
    have p2 := HB3.out.cell 2 rfl
    have p3 := HB3.out.cell 3 rfl
    have p4 := HB3.out.cell 4 rfl
    have p5 := HB3.out.cell 5 rfl
    have p6 := HB3.out.cell 6 rfl
    unfold TupSI
    go_wp2_with fail
    refine HB4.out.mono ?_
    rintro e w4 ⟨rfl, hw4⟩
    have HW4 := Lib.hid (HW3.out.trans (hw4.mono HW3.out.size))
    have HT4 := Lib.hid (HT.out w4 HW4.out)
    clear hw4 HB4 HB3 HW3 HT p0 p1 p2 p3 p4 p5 p6
    unfold TupSI
    go_wp2_with fail
    refine HT4.out.mono ?_
    rintro e w5 ⟨rfl, hw5⟩
    have HW5 := Lib.hid (HW4.out.trans (hw5.mono HW4.out.size))
    clear hw5
    go_wp2_with fail
    go_ret
    exact ⟨rfl, HW5.out⟩
end Go.Proofs.YtlimlmjljjmcpaaGreatDoor.Px
