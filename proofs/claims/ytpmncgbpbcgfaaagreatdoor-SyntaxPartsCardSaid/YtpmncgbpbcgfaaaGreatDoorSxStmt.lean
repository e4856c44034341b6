/-
  A statement.
-/
import Derived.Test.YtpmncgbpbcgfaaaGreatDoorSxM
namespace Go.Proofs.YtpmncgbpbcgfaaaGreatDoor
open Go.RowKit
set_option linter.unusedVariables false
set_option linter.unusedSimpArgs false

def pStmtGo (m : Nat) (x : Bool × Stm) : P Stm := fun C i d => match C[i]? with
    | some t =>
      if t.kind = 2 then
        if t.text = [73, 78, 83, 69, 82, 84] ∨ t.text = [85, 80, 68, 65, 84, 69] ∨ t.text = [68, 69, 76, 69, 84, 69] then (do
          pCheck (decide (x.2.mode ≠ 3)) i 15
          pStep
          pModification m t.text x.2 : P Stm) C i d
        else if t.text = [83, 69, 76, 69, 67, 84] then (do
          let q ← pQuery m
          pure { x.2 with kind := 1, query := q } : P Stm) C i d
        else if x.1 then pWrong C i d
        else (do
          match ← pCommand m x.2 with
          | some s => pure s
          | none => pWrong : P Stm) C i d
      else (do
        let q ← pQuery m
        pure { x.2 with kind := 1, query := q } : P Stm) C i d
    | none => (do
        let q ← pQuery m
        pure { x.2 with kind := 1, query := q } : P Stm) C i d
theorem pStatement_eq (m : Nat) : pStatement m = (pPrefix Stm.zero >>= fun x => pStmtGo m x) := rfl
theorem stmt_end {m : Nat} {x : Bool × Stm} {T : List Tok} {j : Nat} {d : Bool} {r : R Stm} (h : T.length ≤ j) (hr : pStmtGo m x (cores T) j d = r) : (pQuery m >>= fun q => (pure { x.2 with kind := 1, query := q } : P Stm)) (cores T) j d = r := by
  unfold pStmtGo at hr
  rw [cores_none h] at hr
  exact hr
theorem stmt_other {m : Nat} {x : Bool × Stm} {T : List Tok} {j : Nat} {d : Bool} {r : R Stm} (h : j < T.length) (hk : T[j].kind ≠ 2) (hr : pStmtGo m x (cores T) j d = r) : (pQuery m >>= fun q => (pure { x.2 with kind := 1, query := q } : P Stm)) (cores T) j d = r := by
  unfold pStmtGo at hr
  rw [cores_at h] at hr
  simp only at hr
  rw [if_neg (show ¬ T[j].core.kind = 2 from hk)] at hr
  exact hr
theorem stmt_mod {m : Nat} {x : Bool × Stm} {T : List Tok} {j : Nat} {d : Bool} {r : R Stm} (h : j < T.length) (hk : T[j].kind = 2) (ht : T[j].text = [73, 78, 83, 69, 82, 84] ∨ T[j].text = [85, 80, 68, 65, 84, 69] ∨ T[j].text = [68, 69, 76, 69, 84, 69]) (hr : pStmtGo m x (cores T) j d = r) : (pCheck (decide (x.2.mode ≠ 3)) j 15 >>= fun _ => pStep >>= fun _ => pModification m T[j].text x.2) (cores T) j d = r := by
  unfold pStmtGo at hr
  rw [cores_at h] at hr
  simp only at hr
  rw [if_pos (show T[j].core.kind = 2 from hk), if_pos (show T[j].core.text = _ ∨ T[j].core.text = _ ∨ T[j].core.text = _ from ht)] at hr
  exact hr
theorem stmt_sel {m : Nat} {x : Bool × Stm} {T : List Tok} {j : Nat} {d : Bool} {r : R Stm} (h : j < T.length) (hk : T[j].kind = 2) (ht : T[j].text = [83, 69, 76, 69, 67, 84]) (hr : pStmtGo m x (cores T) j d = r) : (pQuery m >>= fun q => (pure { x.2 with kind := 1, query := q } : P Stm)) (cores T) j d = r := by
  unfold pStmtGo at hr
  rw [cores_at h] at hr
  simp only at hr
  rw [if_pos (show T[j].core.kind = 2 from hk), if_neg (show ¬ (T[j].core.text = _ ∨ T[j].core.text = _ ∨ T[j].core.text = _) from by rw [show T[j].core.text = _ from ht]; decide), if_pos (show T[j].core.text = _ from ht)] at hr
  exact hr
theorem stmt_cmd {m : Nat} {x : Bool × Stm} {T : List Tok} {j : Nat} {d : Bool} {r : R Stm} (h : j < T.length) (hk : T[j].kind = 2) (ht : ¬ (T[j].text = [73, 78, 83, 69, 82, 84] ∨ T[j].text = [85, 80, 68, 65, 84, 69] ∨ T[j].text = [68, 69, 76, 69, 84, 69])) (hs : T[j].text ≠ [83, 69, 76, 69, 67, 84]) (hr : pStmtGo m x (cores T) j d = r) : (if x.1 = true then pWrong else pCommand m x.2 >>= fun o => match o with | some s => pure s | none => pWrong) (cores T) j d = r := by
  unfold pStmtGo at hr
  rw [cores_at h] at hr
  simp only at hr
  rw [if_pos (show T[j].core.kind = 2 from hk), if_neg (show ¬ (T[j].core.text = _ ∨ T[j].core.text = _ ∨ T[j].core.text = _) from ht), if_neg (show ¬ T[j].core.text = _ from hs)] at hr
  rcases x with ⟨_ | _, s⟩
  · exact hr
  · exact hr
theorem prefix_form {C : List Core} {i j : Nat} {d d' : Bool} {x : Bool × Stm} (h : pPrefix Stm.zero C i d = .ok x j d') : ∃ mo va, x.2 = stm0 mo va := by
  unfold pPrefix at h
  rcases h1 : aheadB C i 0 2 [86, 65, 76, 73, 68] with _ | _
  · replace h := ifWord_no h1 h
    rcases h2 : aheadB C i 0 2 [83, 69, 81, 85, 69, 78, 67, 69, 68] with _ | _
    · replace h := ifWord_no h2 h
      rcases h3 : aheadB C i 0 2 [78, 79, 78, 83, 69, 81, 85, 69, 78, 67, 69, 68] with _ | _
      · replace h := ifWord_no h3 h
        cases h
        exact ⟨0, (0, 0), rfl⟩
      · replace h := ifWord_yes h3 h
        cases h
        exact ⟨3, (0, 0), rfl⟩
    · replace h := ifWord_yes h2 h
      obtain ⟨b, k, e, h3, h4⟩ := bind_inv h
      rcases b with _ | _
      · cases h4
        exact ⟨2, (0, forever), rfl⟩
      · obtain ⟨q, k2, e2, h5, h6⟩ := bind_inv (show (pPeriod >>= fun q => (pure (true, { Stm.zero with mode := 2, valid := q }) : P (Bool × Stm))) C k e = _ from h4)
        cases h6
        exact ⟨2, q, rfl⟩
  · replace h := ifWord_yes h1 h
    obtain ⟨u, k, e, h3, h4⟩ := bind_inv h
    obtain ⟨t, k2, e2, h5, h6⟩ := bind_inv h4
    cases h6
    exact ⟨1, (t, t + 1), rfl⟩
theorem stm_query {w : World} {base mo : Nat} {va : Nat × Nat} {q : Qry} {qs : List Value} (h : QRep w (Fp base []) q qs) : StmRep w (Fp base []) { stm0 mo va with kind := 1, query := q } ([natV 1, natV mo, natV va.1, natV va.2] ++ (qs ++ ([.string ⟨#[]⟩, .slice none 0 0, .slice none 0 0, .bool false] ++ (zeroE7 ++ stEnd Stm.zero)))) :=
  ⟨qs, .slice none 0 0, .slice none 0 0, zeroE7, .slice none 0 0, .slice none 0 0, .slice none 0 0, .slice none 0 0, ⟨h, .inl ⟨rfl, rfl⟩, .inl ⟨rfl, rfl⟩, zeroE_rep _ _, ⟨.inl ⟨rfl, rfl⟩, .inl ⟨rfl, rfl⟩, .inl ⟨rfl, rfl⟩⟩, .inl ⟨rfl, rfl⟩⟩, rfl⟩
set_option maxHeartbeats 20000000 in
set_option maxRecDepth 100000 in
theorem statement_call (m : Nat) (p : Nat) (v : Value) (T : List Tok) (n : Nat) (w : World) (i : Nat) (d : Bool) (h : St w p v T i n d) (hm : 3 * (T.length - i) + 3 ≤ m) :
    Calls Tryz.prog 16 #[.pointer (some ⟨p, 0, none⟩)] w (PPost w p v T i n (aggR StmRep w.heap.size) (pStatement m (cores T) i d)) := by
  obtain ⟨r, hr⟩ : ∃ r, pStatement m (cores T) i d = r := ⟨_, rfl⟩
  rw [hr]
  rw [pStatement_eq] at hr
  obtain ⟨A, c, rfl, hA⟩ := h.slice
  have hlT := h.tk.len
  have hleT := h.le
  have HR := Lib.hid hr
  have ha := At.start h
  clear hr h
  go_enter Tryz.func16, Tryz.ntmps16
  go_upto_region 1 with (fail)
  refine name_alloc (K := Code.wp _ _ _ _) fun w1 hB hw1 hz1 => ?_
  replace ha := ha.below hw1
  have hz1' : w.heap.size + 1 ≤ w1.heap.size := by omega
  have hBp : w.heap.size ≠ p := by have := ha.hp; omega
  clear hw1 hz1
  go_wp2_with (first | (refine build_is rfl 57 _ rfl (stmZ Stm.zero) (by kernel_rfl) ?_) | (refine store_new rfl 57 (.tmp 3) (.tmp 6) rfl (stmZ Stm.zero) rfl rfl 57 (stmZ Stm.zero) (by kernel_rfl) rfl (goodStm.one (stm_flat (w := w) (F := fun _ => True) (a := Stm.zero) rfl rfl rfl rfl rfl rfl)) ?_))
  intro w2 hX hw2 hz2
  replace ha := ha.below hw2
  replace hB := hB.below hw2
  have hz2' : w1.heap.size + 1 ≤ w2.heap.size := by omega
  have hXp : w1.heap.size ≠ p := by have := ha.hp; omega
  clear hw2 hz2
  go_wp2_with fail
  refine at_step (prefix_call w p _ T n w1.heap.size Stm.zero w2 i d ha hX (by omega)) HR (fun x j3 d3 val w3 HX HR hj ha hij3 => ?_) (fun j c w' hr hg => ⟨rfl, PPost.failed hr.out hg⟩)
  obtain ⟨mo, va, hx2⟩ := prefix_form HX.out
  obtain ⟨rfl, hX3, hF3, hs3⟩ := hj
  rcases x with ⟨pf, st⟩
  obtain rfl : st = stm0 mo va := hx2
  replace hB : Blk w3 w.heap.size _ _ := (hF3 _ (by omega) (by omega) hBp).trans hB
  clear hX HX hF3
  have hX := hX3
  clear hX3
  have hle3 := ha.st.le
  have h0 := ha.st.ps.c0
  have h1 := ha.st.ps.c1
  by_cases hjl : T.length ≤ j3
  · have HRq := Lib.hid (stmt_end hjl HR.out)
    have d1 : decide (j3 < T.length) = false := decide_eq_false (by omega)
    clear HR hA
    go_upto_region 3 with (fail)
    go_quiet (fail)
    refine name_drew (K := Exit.then _ _ _ _) fun w4 hw4 hz4 => ?_
    replace ha := ha.below hw4
    replace hB := hB.below hw4
    replace hX := hX.below hw4
    have hs4 : w3.heap.size ≤ w4.heap.size := by omega
    clear h0 h1 hw4 hz4
    go_wp2_with fail
    have hleq := ha.st.le
    refine at_call (query_call m p _ T n w4 _ _ ha.st (by omega)) ha HRq (fun q jq dq val wq HR hv ha hijq hgq => ?_) (fun j c w' hr hg => ⟨rfl, PPost.failed hr.out hg⟩)
    obtain ⟨qs, rfl, hrq⟩ := hv
    have hX0 := hX.lt
    replace hX := hX.grown hgq hXp
    replace hB := hB.grown hgq hBp
    have hsq := hgq.size
    have HLq := Lib.hid (goodQ.len hrq)
    have HQ := Lib.hid hrq
    clear hgq hrq
    have x0 := hX.cell 0 rfl
    have z0 := hX.free 0
    have k0 := only_setCell (World.grownBy.refl wq (some w1.heap.size)) 0 (.int .i64 1)
    have hX1 := hX.set 0 (.int .i64 1)
    have HQ1 := Lib.hid (goodQ.kept HQ.out fun b hb hl => k0.block b hl (fun e => by injection e with e; have := hb.1; omega))
    go_wp2_with (refine store_part rfl 40 (.tmp 80) (.tmp 78) rfl w1.heap.size 4 qs rfl rfl 57 [natV 1, natV mo, natV va.1, natV va.2] qZero ([.string ⟨#[]⟩, .slice none 0 0, .slice none 0 0, .bool false] ++ (zeroE7 ++ stEnd Stm.zero)) hX1 rfl (by rw [HLq.out]; rfl) (by rw [HLq.out]; kernel_rfl) (goodQ.one HQ1.out) ?_)
    intro wt hXt hgt hzt
    have hB1 := (hB.grown k0 (by omega)).grown hgt (by omega)
    have ha1 := (ha.own k0 (by omega)).own hgt (by omega)
    have HQt := Lib.hid (goodQ.kept HQ1.out fun b hb hl => hgt.block b hl (fun e => by injection e with e; have := hb.1; omega))
    clear k0 hgt hzt x0 z0 hX hX1 hB ha HQ HQ1
    obtain ⟨cs, hS, hrep⟩ : ∃ cs, Blk wt w1.heap.size cs 57 ∧ StmRep wt (Fp w4.heap.size []) { stm0 mo va with kind := 1, query := q } cs := ⟨_, hXt, stm_query (mo := mo) (va := va) HQt.out⟩
    have hB := hB1
    have ha := ha1
    have HRep := Lib.hid hrep
    clear hrep
    have HRok : Hid (r = .ok { stm0 mo va with kind := 1, query := q } jq dq) := Lib.hid HR.out.symm
    clear hXt hB1 ha1 HQt HR
    have HL := Lib.hid (goodStm.len HRep.out)
    go_wp2_with (first | (refine wpList_load_mid rfl 57 (.tmp 3) rfl w1.heap.size 0 rfl cs _ hS.all Tryz.underlying57 rfl (by rw [HL.out]; kernel_rfl) ?_) | (refine store_blk rfl 57 (.tmp 2) (.tmp 81) rfl w.heap.size cs rfl rfl 57 _ hB (by rw [HL.out]; kernel_rfl) (by rw [HL.out]; rfl) (goodStm.one HRep.out) ?_))
    intro wz hBz hgz hzz
    have haz := ha.own hgz (Nat.le_refl _)
    have HRz := Lib.hid (goodStm.kept HRep.out (w' := wz) fun b hb hl => hgz.block b hl (fun e => by injection e with e; have := hb.1; omega))
    clear hgz hzz hS HRep
    go_wp2_with fail
    refine bodyPost_ret (results_cell_row Tryz.results16 _ _ w.heap.size _ _ _ _ rfl hBz Tryz.underlying57 rfl (by simp only [List.size_toArray]; rw [HL.out]; kernel_rfl)) rfl ?_
    exact at_ok haz HRok.out ⟨_, rfl, goodStm.mono HRz.out fun b hb _ => ⟨by have := hb.1; omega, by simp⟩⟩ (by omega)
  · obtain ⟨g, rfl⟩ := hA (by omega)
    clear hA
    have d1 : decide (j3 < T.length) = true := decide_eq_true (by omega)
    have c2 : (j3 : Int) < (T.length : Int) := by omega
    have c3 : (0 : Int) ≤ (j3 : Int) := by omega
    obtain ⟨t0, t1, t2, t3⟩ := ha.st.tok (k := j3) (by omega)
    by_cases hk : T[j3].kind = 2
    · have hj3 : j3 < T.length := by omega
      have HRm : Hid ((T[j3].text = [73, 78, 83, 69, 82, 84] ∨ T[j3].text = [85, 80, 68, 65, 84, 69] ∨ T[j3].text = [68, 69, 76, 69, 84, 69]) → (pCheck (decide ((stm0 mo va).mode ≠ 3)) j3 15 >>= fun _ => pStep >>= fun _ => pModification m T[j3].text (stm0 mo va)) (cores T) j3 d3 = r) := Lib.hid (fun ht => stmt_mod (by omega) hk ht HR.out)
      have HRs := Lib.hid (fun (ht : T[j3].text = [83, 69, 76, 69, 67, 84]) => stmt_sel hj3 hk ht HR.out)
      have HRc := Lib.hid (fun (ht : ¬ (T[j3].text = [73, 78, 83, 69, 82, 84] ∨ T[j3].text = [85, 80, 68, 65, 84, 69] ∨ T[j3].text = [68, 69, 76, 69, 84, 69])) (hs : T[j3].text ≠ [83, 69, 76, 69, 67, 84]) => stmt_cmd hj3 hk ht hs HR.out)
      have c4 : ((T[j3].kind : Int) == 2) = true := by rw [beq_iff_eq]; omega
      obtain ⟨tk, htk⟩ : ∃ tk, T[j3] = tk := ⟨_, rfl⟩
      have HTK := Lib.hid htk
      rw [htk] at t0 t1 t2 t3 HRm HRs HRc c4
      clear HR hk htk
      go_upto_region 3 with (fail)
      go_quiet (fail)
      refine name_drew (K := Exit.then _ _ _ _) fun w4 hw4 hz4 => ?_
      have lg3 : g < w3.heap.size := World.block_lt_of_cell? w3 _ t0
      replace t0 := (hw4.cell (p := ⟨g, j3 * 4, none⟩) lg3).trans t0
      replace t1 := (hw4.cell (p := ⟨g, j3 * 4 + 1, none⟩) lg3).trans t1
      replace t2 := (hw4.cell (p := ⟨g, j3 * 4 + 2, none⟩) lg3).trans t2
      replace t3 := (hw4.cell (p := ⟨g, j3 * 4 + 3, none⟩) lg3).trans t3
      replace ha := ha.below hw4
      replace hB := hB.below hw4
      replace hX := hX.below hw4
      have hs4 : w3.heap.size ≤ w4.heap.size := by omega
      clear h0 h1 hw4 hz4 c4 lg3
      have h0 := ha.st.ps.c0
      have h1 := ha.st.ps.c1
      go_wp2_with fail
      have lp : p < w4.heap.size := ha.st.ps.lt
      have lg : g < w4.heap.size := World.block_lt_of_cell? w4 _ t0
      go_region
      refine name_allocDrew (K := Exit.then _ _ _ _) fun w5 hT hw5 hz5 => ?_
      replace ha := ha.below hw5
      replace hB := hB.below hw5
      replace hX := hX.below hw5
      have hs5 : w4.heap.size + 1 ≤ w5.heap.size := by omega
      have hTp : w4.heap.size ≠ p := by omega
      clear h0 h1 hw5 hz5 t0 t1 t2 t3 lp lg
      have f1 := hT.cell 1 rfl
      by_cases e1 : tk.text = [73, 78, 83, 69, 82, 84]
      · have E23 : True := trivial
        have b1 : (tk.text == [73, 78, 83, 69, 82, 84]) = true := beq_iff_eq.2 e1
        rw [e1] at b1
        have HRx := Lib.hid (HRm.out (by simp [e1]))
        rw [e1] at HRx hT f1
        clear HRm HRs HRc E23
        have f0 := hT.cell 0 rfl
        have f2 := hT.cell 2 rfl
        have f3 := hT.cell 3 rfl
        have x1 : w5.cell? ⟨w1.heap.size, 1, none⟩ = some (.int .i64 (mo : Int)) := hX.cell 1 rfl
        go_upto_region 12 with (fail)
        have HBM : Hid (((mo : Int) != 3) = decide ((stm0 mo va).mode ≠ 3)) := Lib.hid (by rw [Bool.eq_iff_iff, bne_iff_ne, decide_eq_true_iff]; show (mo : Int) ≠ 3 ↔ mo ≠ 3; omega)
        have HTK2 : Hid (T[j3] = ⟨tk.kind, [73, 78, 83, 69, 82, 84], tk.int, tk.at_⟩) := Lib.hid (by rw [HTK.out]; rcases tk with ⟨k1, k2, k3, k4⟩; simp only at e1; rw [e1])
        clear e1
        go_wp2_with fail
        refine at_check (t := ⟨tk.kind, [73, 78, 83, 69, 82, 84], tk.int, tk.at_⟩) (c := 15) (b := ((mo : Int) != 3)) (b' := decide ((stm0 mo va).mode ≠ 3)) ha hj3 HTK2 HBM.out HRx (fun w6 hck HR ha hw6 => ?_) (fun j c w' hr hg => ⟨rfl, PPost.failed hr.out hg⟩)
        replace hB := hB.below hw6
        replace hX := hX.below hw6
        replace hT := hT.below hw6
        have hs6 := hw6.size
        clear hw6 hck f0 f1 f2 f3 x1 HBM
        have c1 := ha.st.ps.c1
        have hf := ha.st.ps.free 1
        have ew : IntKind.i64.wrap ((j3 : Int) + 1) = (j3 : Int) + 1 := by rw [IntWalk.i64_in _ (by omega)]
        go_upto_region 14 with (fail)
        refine name_step ha hj3 (K := Code.wp _ _ _ _) fun w7 ha hg7 hz7 => ?_
        replace hB := hB.grown hg7 hBp
        replace hX := hX.grown hg7 hXp
        replace hT := hT.grown hg7 hTp
        clear hg7 c1 hf ew
        have hs7 : w6.heap.size ≤ w7.heap.size := by omega
        clear hz7
        have f1 := hT.cell 1 rfl
        have HRy : Hid (pModification m [73, 78, 83, 69, 82, 84] (stm0 mo va) (cores T) (j3 + 1) d3 = r) := Lib.hid (by have h := HR.out; exact h)
        clear HR HRx
        go_wp2_with fail
        have hle7 := ha.st.le
        refine at_stepL (insert_call m w p _ T n w1.heap.size mo va w7 _ _ ha hX (by omega) (by omega)) HRy (fun a j8 d8 val w8 HRok hj ha8 hij8 => ?_) (fun j c w' hr hg => ⟨rfl, PPost.failed hr.out hg⟩)
        obtain ⟨rfl, hSt, hF8, hs8⟩ := hj
        obtain ⟨cs, hS, hrep⟩ := hSt
        have HRep := Lib.hid hrep
        replace hB : Blk w8 w.heap.size _ _ := (hF8 _ (by omega) (by omega) hBp).trans hB
        clear hrep f1 hX hF8 ha hT
        have ha := ha8
        clear ha8
        have HL := Lib.hid (goodStm.len HRep.out)
        go_wp2_with (first | (refine wpList_load_mid rfl 57 (.tmp 3) rfl w1.heap.size 0 rfl cs _ hS.all Tryz.underlying57 rfl (by rw [HL.out]; kernel_rfl) ?_) | (refine store_blk rfl 57 (.tmp 2) (.tmp 74) rfl w.heap.size cs rfl rfl 57 _ hB (by rw [HL.out]; kernel_rfl) (by rw [HL.out]; rfl) (goodStm.one HRep.out) ?_))
        intro wz hBz hgz hzz
        have haz := ha.own hgz (Nat.le_refl _)
        have HRz := Lib.hid (goodStm.kept HRep.out (w' := wz) fun b hb hl => hgz.block b hl (fun e => by injection e with e; have := hb.1; omega))
        clear hgz hzz hS HRep
        go_wp2_with fail
        refine bodyPost_ret (results_cell_row Tryz.results16 _ _ w.heap.size _ _ _ _ rfl hBz Tryz.underlying57 rfl (by simp only [List.size_toArray]; rw [HL.out]; kernel_rfl)) rfl ?_
        exact at_ok haz HRok.out ⟨_, rfl, goodStm.mono HRz.out fun b hb _ => ⟨by have := hb.1; omega, by simp⟩⟩ (by omega)
      · have b1 : (tk.text == [73, 78, 83, 69, 82, 84]) = false := beq_eq_false_iff_ne.2 e1
        by_cases e2 : tk.text = [85, 80, 68, 65, 84, 69]
        · have E23 : True := trivial
          have b2 : (tk.text == [85, 80, 68, 65, 84, 69]) = true := beq_iff_eq.2 e2
          rw [e2] at b1 b2
          have HRx := Lib.hid (HRm.out (by simp [e2]))
          rw [e2] at HRx hT f1
          clear HRm HRs HRc e1 E23
          have f0 := hT.cell 0 rfl
          have f2 := hT.cell 2 rfl
          have f3 := hT.cell 3 rfl
          have x1 : w5.cell? ⟨w1.heap.size, 1, none⟩ = some (.int .i64 (mo : Int)) := hX.cell 1 rfl
          go_upto_region 12 with (fail)
          have HBM : Hid (((mo : Int) != 3) = decide ((stm0 mo va).mode ≠ 3)) := Lib.hid (by rw [Bool.eq_iff_iff, bne_iff_ne, decide_eq_true_iff]; show (mo : Int) ≠ 3 ↔ mo ≠ 3; omega)
          have HTK2 : Hid (T[j3] = ⟨tk.kind, [85, 80, 68, 65, 84, 69], tk.int, tk.at_⟩) := Lib.hid (by rw [HTK.out]; rcases tk with ⟨k1, k2, k3, k4⟩; simp only at e2; rw [e2])
          clear e2
          go_wp2_with fail
          refine at_check (t := ⟨tk.kind, [85, 80, 68, 65, 84, 69], tk.int, tk.at_⟩) (c := 15) (b := ((mo : Int) != 3)) (b' := decide ((stm0 mo va).mode ≠ 3)) ha hj3 HTK2 HBM.out HRx (fun w6 hck HR ha hw6 => ?_) (fun j c w' hr hg => ⟨rfl, PPost.failed hr.out hg⟩)
          replace hB := hB.below hw6
          replace hX := hX.below hw6
          replace hT := hT.below hw6
          have hs6 := hw6.size
          clear hw6 hck f0 f1 f2 f3 x1 HBM
          have c1 := ha.st.ps.c1
          have hf := ha.st.ps.free 1
          have ew : IntKind.i64.wrap ((j3 : Int) + 1) = (j3 : Int) + 1 := by rw [IntWalk.i64_in _ (by omega)]
          go_upto_region 14 with (fail)
          refine name_step ha hj3 (K := Code.wp _ _ _ _) fun w7 ha hg7 hz7 => ?_
          replace hB := hB.grown hg7 hBp
          replace hX := hX.grown hg7 hXp
          replace hT := hT.grown hg7 hTp
          clear hg7 c1 hf ew
          have hs7 : w6.heap.size ≤ w7.heap.size := by omega
          clear hz7
          have f1 := hT.cell 1 rfl
          have HRy : Hid (pModification m [85, 80, 68, 65, 84, 69] (stm0 mo va) (cores T) (j3 + 1) d3 = r) := Lib.hid (by have h := HR.out; exact h)
          clear HR HRx
          go_wp2_with fail
          have hle7 := ha.st.le
          refine at_stepL (update_call m w p _ T n w1.heap.size mo va w7 _ _ ha hX (by omega) (by omega)) HRy (fun a j8 d8 val w8 HRok hj ha8 hij8 => ?_) (fun j c w' hr hg => ⟨rfl, PPost.failed hr.out hg⟩)
          obtain ⟨rfl, hSt, hF8, hs8⟩ := hj
          obtain ⟨cs, hS, hrep⟩ := hSt
          have HRep := Lib.hid hrep
          replace hB : Blk w8 w.heap.size _ _ := (hF8 _ (by omega) (by omega) hBp).trans hB
          clear hrep f1 hX hF8 ha hT
          have ha := ha8
          clear ha8
          have HL := Lib.hid (goodStm.len HRep.out)
          go_wp2_with (first | (refine wpList_load_mid rfl 57 (.tmp 3) rfl w1.heap.size 0 rfl cs _ hS.all Tryz.underlying57 rfl (by rw [HL.out]; kernel_rfl) ?_) | (refine store_blk rfl 57 (.tmp 2) (.tmp 74) rfl w.heap.size cs rfl rfl 57 _ hB (by rw [HL.out]; kernel_rfl) (by rw [HL.out]; rfl) (goodStm.one HRep.out) ?_))
          intro wz hBz hgz hzz
          have haz := ha.own hgz (Nat.le_refl _)
          have HRz := Lib.hid (goodStm.kept HRep.out (w' := wz) fun b hb hl => hgz.block b hl (fun e => by injection e with e; have := hb.1; omega))
          clear hgz hzz hS HRep
          go_wp2_with fail
          refine bodyPost_ret (results_cell_row Tryz.results16 _ _ w.heap.size _ _ _ _ rfl hBz Tryz.underlying57 rfl (by simp only [List.size_toArray]; rw [HL.out]; kernel_rfl)) rfl ?_
          exact at_ok haz HRok.out ⟨_, rfl, goodStm.mono HRz.out fun b hb _ => ⟨by have := hb.1; omega, by simp⟩⟩ (by omega)
        · have b2 : (tk.text == [85, 80, 68, 65, 84, 69]) = false := beq_eq_false_iff_ne.2 e2
          by_cases e3 : tk.text = [68, 69, 76, 69, 84, 69]
          · have E23 : True := trivial
            have b3 : (tk.text == [68, 69, 76, 69, 84, 69]) = true := beq_iff_eq.2 e3
            rw [e3] at b1 b2 b3
            have HRx := Lib.hid (HRm.out (by simp [e3]))
            rw [e3] at HRx hT f1
            clear HRm HRs HRc e1 e2 E23
            have f0 := hT.cell 0 rfl
            have f2 := hT.cell 2 rfl
            have f3 := hT.cell 3 rfl
            have x1 : w5.cell? ⟨w1.heap.size, 1, none⟩ = some (.int .i64 (mo : Int)) := hX.cell 1 rfl
            go_upto_region 12 with (fail)
            have HBM : Hid (((mo : Int) != 3) = decide ((stm0 mo va).mode ≠ 3)) := Lib.hid (by rw [Bool.eq_iff_iff, bne_iff_ne, decide_eq_true_iff]; show (mo : Int) ≠ 3 ↔ mo ≠ 3; omega)
            have HTK2 : Hid (T[j3] = ⟨tk.kind, [68, 69, 76, 69, 84, 69], tk.int, tk.at_⟩) := Lib.hid (by rw [HTK.out]; rcases tk with ⟨k1, k2, k3, k4⟩; simp only at e3; rw [e3])
            clear e3
            go_wp2_with fail
            refine at_check (t := ⟨tk.kind, [68, 69, 76, 69, 84, 69], tk.int, tk.at_⟩) (c := 15) (b := ((mo : Int) != 3)) (b' := decide ((stm0 mo va).mode ≠ 3)) ha hj3 HTK2 HBM.out HRx (fun w6 hck HR ha hw6 => ?_) (fun j c w' hr hg => ⟨rfl, PPost.failed hr.out hg⟩)
            replace hB := hB.below hw6
            replace hX := hX.below hw6
            replace hT := hT.below hw6
            have hs6 := hw6.size
            clear hw6 hck f0 f1 f2 f3 x1 HBM
            have c1 := ha.st.ps.c1
            have hf := ha.st.ps.free 1
            have ew : IntKind.i64.wrap ((j3 : Int) + 1) = (j3 : Int) + 1 := by rw [IntWalk.i64_in _ (by omega)]
            go_upto_region 14 with (fail)
            refine name_step ha hj3 (K := Code.wp _ _ _ _) fun w7 ha hg7 hz7 => ?_
            replace hB := hB.grown hg7 hBp
            replace hX := hX.grown hg7 hXp
            replace hT := hT.grown hg7 hTp
            clear hg7 c1 hf ew
            have hs7 : w6.heap.size ≤ w7.heap.size := by omega
            clear hz7
            have f1 := hT.cell 1 rfl
            have HRy : Hid (pModification m [68, 69, 76, 69, 84, 69] (stm0 mo va) (cores T) (j3 + 1) d3 = r) := Lib.hid (by have h := HR.out; exact h)
            clear HR HRx
            go_wp2_with fail
            have hle7 := ha.st.le
            refine at_stepL (delete_call m w p _ T n w1.heap.size mo va w7 _ _ ha hX (by omega) (by omega)) HRy (fun a j8 d8 val w8 HRok hj ha8 hij8 => ?_) (fun j c w' hr hg => ⟨rfl, PPost.failed hr.out hg⟩)
            obtain ⟨rfl, hSt, hF8, hs8⟩ := hj
            obtain ⟨cs, hS, hrep⟩ := hSt
            have HRep := Lib.hid hrep
            replace hB : Blk w8 w.heap.size _ _ := (hF8 _ (by omega) (by omega) hBp).trans hB
            clear hrep f1 hX hF8 ha hT
            have ha := ha8
            clear ha8
            have HL := Lib.hid (goodStm.len HRep.out)
            go_wp2_with (first | (refine wpList_load_mid rfl 57 (.tmp 3) rfl w1.heap.size 0 rfl cs _ hS.all Tryz.underlying57 rfl (by rw [HL.out]; kernel_rfl) ?_) | (refine store_blk rfl 57 (.tmp 2) (.tmp 74) rfl w.heap.size cs rfl rfl 57 _ hB (by rw [HL.out]; kernel_rfl) (by rw [HL.out]; rfl) (goodStm.one HRep.out) ?_))
            intro wz hBz hgz hzz
            have haz := ha.own hgz (Nat.le_refl _)
            have HRz := Lib.hid (goodStm.kept HRep.out (w' := wz) fun b hb hl => hgz.block b hl (fun e => by injection e with e; have := hb.1; omega))
            clear hgz hzz hS HRep
            go_wp2_with fail
            refine bodyPost_ret (results_cell_row Tryz.results16 _ _ w.heap.size _ _ _ _ rfl hBz Tryz.underlying57 rfl (by simp only [List.size_toArray]; rw [HL.out]; kernel_rfl)) rfl ?_
            exact at_ok haz HRok.out ⟨_, rfl, goodStm.mono HRz.out fun b hb _ => ⟨by have := hb.1; omega, by simp⟩⟩ (by omega)
          · have b3 : (tk.text == [68, 69, 76, 69, 84, 69]) = false := beq_eq_false_iff_ne.2 e3
            by_cases e4 : tk.text = [83, 69, 76, 69, 67, 84]
            · have b4 : (tk.text == [83, 69, 76, 69, 67, 84]) = true := beq_iff_eq.2 e4
              have HRq := Lib.hid (HRs.out e4)
              clear HRc HRs HRm e1 e2 e3 e4
              go_wp2_with fail
              have hleq := ha.st.le
              refine at_call (query_call m p _ T n w5 _ _ ha.st (by omega)) ha HRq (fun q jq dq val wq HR hv ha hijq hgq => ?_) (fun j c w' hr hg => ⟨rfl, PPost.failed hr.out hg⟩)
              obtain ⟨qs, rfl, hrq⟩ := hv
              have hX0 := hX.lt
              replace hX := hX.grown hgq hXp
              replace hB := hB.grown hgq hBp
              have hsq := hgq.size
              have HLq := Lib.hid (goodQ.len hrq)
              have HQ := Lib.hid hrq
              clear hgq hrq
              have x0 := hX.cell 0 rfl
              have z0 := hX.free 0
              have k0 := only_setCell (World.grownBy.refl wq (some w1.heap.size)) 0 (.int .i64 1)
              have hX1 := hX.set 0 (.int .i64 1)
              have HQ1 := Lib.hid (goodQ.kept HQ.out fun b hb hl => k0.block b hl (fun e => by injection e with e; have := hb.1; omega))
              go_wp2_with (refine store_part rfl 40 (.tmp 80) (.tmp 78) rfl w1.heap.size 4 qs rfl rfl 57 [natV 1, natV mo, natV va.1, natV va.2] qZero ([.string ⟨#[]⟩, .slice none 0 0, .slice none 0 0, .bool false] ++ (zeroE7 ++ stEnd Stm.zero)) hX1 rfl (by rw [HLq.out]; rfl) (by rw [HLq.out]; kernel_rfl) (goodQ.one HQ1.out) ?_)
              intro wt hXt hgt hzt
              have hB1 := (hB.grown k0 (by omega)).grown hgt (by omega)
              have ha1 := (ha.own k0 (by omega)).own hgt (by omega)
              have HQt := Lib.hid (goodQ.kept HQ1.out fun b hb hl => hgt.block b hl (fun e => by injection e with e; have := hb.1; omega))
              clear k0 hgt hzt x0 z0 hX hX1 hB ha HQ HQ1
              obtain ⟨cs, hS, hrep⟩ : ∃ cs, Blk wt w1.heap.size cs 57 ∧ StmRep wt (Fp w5.heap.size []) { stm0 mo va with kind := 1, query := q } cs := ⟨_, hXt, stm_query (mo := mo) (va := va) HQt.out⟩
              have hB := hB1
              have ha := ha1
              have HRep := Lib.hid hrep
              clear hrep
              have HRok : Hid (r = .ok { stm0 mo va with kind := 1, query := q } jq dq) := Lib.hid HR.out.symm
              clear hXt hB1 ha1 HQt HR
              have HL := Lib.hid (goodStm.len HRep.out)
              go_wp2_with (first | (refine wpList_load_mid rfl 57 (.tmp 3) rfl w1.heap.size 0 rfl cs _ hS.all Tryz.underlying57 rfl (by rw [HL.out]; kernel_rfl) ?_) | (refine store_blk rfl 57 (.tmp 2) (.tmp 81) rfl w.heap.size cs rfl rfl 57 _ hB (by rw [HL.out]; kernel_rfl) (by rw [HL.out]; rfl) (goodStm.one HRep.out) ?_))
              intro wz hBz hgz hzz
              have haz := ha.own hgz (Nat.le_refl _)
              have HRz := Lib.hid (goodStm.kept HRep.out (w' := wz) fun b hb hl => hgz.block b hl (fun e => by injection e with e; have := hb.1; omega))
              clear hgz hzz hS HRep
              go_wp2_with fail
              refine bodyPost_ret (results_cell_row Tryz.results16 _ _ w.heap.size _ _ _ _ rfl hBz Tryz.underlying57 rfl (by simp only [List.size_toArray]; rw [HL.out]; kernel_rfl)) rfl ?_
              exact at_ok haz HRok.out ⟨_, rfl, goodStm.mono HRz.out fun b hb _ => ⟨by have := hb.1; omega, by simp⟩⟩ (by omega)
            · have b4 : (tk.text == [83, 69, 76, 69, 67, 84]) = false := beq_eq_false_iff_ne.2 e4
              have HRd := Lib.hid (HRc.out (by simp [e1, e2, e3]) e4)
              clear HRc HRs HRm e1 e2 e3 e4
              rcases pf with _ | _
              · have HRe : Hid ((pCommand m (stm0 mo va) >>= fun o => match o with | some s => pure s | none => pWrong) (cores T) j3 d3 = r) := Lib.hid (by have h := HRd.out; exact h)
                clear HRd
                go_wp2_with fail
                refine at_step (command_call m w p _ T n w1.heap.size mo va w5 _ _ ha hX (by omega) (by omega)) HRe (fun o j6 d6 val w6 HX HR hj ha6 hij6 => ?_) (fun j c w' hr hg => ⟨rfl, PPost.failed hr.out hg⟩)
                obtain ⟨rfl, hSt, hF6, hs6⟩ := hj
                clear HX HRe
                rcases o with _ | a
                · unfold Option.isSome
                  go_wp2_with fail
                  exact at_wrong ha6 HR (fun j c w' hr hg => ⟨rfl, PPost.failed hr.out hg⟩)
                · unfold Option.isSome
                  obtain ⟨cs, hS, hrep⟩ := hSt a rfl
                  have HRep := Lib.hid hrep
                  have HRok : Hid (r = .ok a j6 d6) := Lib.hid HR.out.symm
                  replace hB : Blk w6 w.heap.size _ _ := (hF6 _ (by omega) (by omega) hBp).trans hB
                  clear hrep hX hF6 ha hSt HR f1 hT
                  have ha := ha6
                  clear ha6
                  have HL := Lib.hid (goodStm.len HRep.out)
                  go_wp2_with (first | (refine wpList_load_mid rfl 57 (.tmp 3) rfl w1.heap.size 0 rfl cs _ hS.all Tryz.underlying57 rfl (by rw [HL.out]; kernel_rfl) ?_) | (refine store_blk rfl 57 (.tmp 2) (.tmp 51) rfl w.heap.size cs rfl rfl 57 _ hB (by rw [HL.out]; kernel_rfl) (by rw [HL.out]; rfl) (goodStm.one HRep.out) ?_))
                  intro wz hBz hgz hzz
                  have haz := ha.own hgz (Nat.le_refl _)
                  have HRz := Lib.hid (goodStm.kept HRep.out (w' := wz) fun b hb hl => hgz.block b hl (fun e => by injection e with e; have := hb.1; omega))
                  clear hgz hzz hS HRep
                  go_wp2_with fail
                  refine bodyPost_ret (results_cell_row Tryz.results16 _ _ w.heap.size _ _ _ _ rfl hBz Tryz.underlying57 rfl (by simp only [List.size_toArray]; rw [HL.out]; kernel_rfl)) rfl ?_
                  exact at_ok haz HRok.out ⟨_, rfl, goodStm.mono HRz.out fun b hb _ => ⟨by have := hb.1; omega, by simp⟩⟩ (by omega)
              · have HRe : Hid ((pWrong : P Stm) (cores T) j3 d3 = r) := Lib.hid (by have h := HRd.out; exact h)
                go_wp2_with fail
                exact at_wrong ha HRe (fun j c w' hr hg => ⟨rfl, PPost.failed hr.out hg⟩)
    · have HRq := Lib.hid (stmt_other (by omega) hk HR.out)
      have c4 : ((T[j3].kind : Int) == 2) = false := by rw [beq_eq_false_iff_ne]; omega
      clear HR hk
      generalize T[j3].kind = kd at t0 c4
      generalize T[j3].text = tx at t1
      generalize T[j3].int = tn at t2
      generalize T[j3].at_ = ta at t3
      go_upto_region 3 with (fail)
      go_quiet (fail)
      refine name_drew (K := Exit.then _ _ _ _) fun w4 hw4 hz4 => ?_
      replace ha := ha.below hw4
      replace hB := hB.below hw4
      replace hX := hX.below hw4
      have hs4 : w3.heap.size ≤ w4.heap.size := by omega
      clear h0 h1 hw4 hz4 t0 t1 t2 t3 c4
      go_wp2_with fail
      have hleq := ha.st.le
      refine at_call (query_call m p _ T n w4 _ _ ha.st (by omega)) ha HRq (fun q jq dq val wq HR hv ha hijq hgq => ?_) (fun j c w' hr hg => ⟨rfl, PPost.failed hr.out hg⟩)
      obtain ⟨qs, rfl, hrq⟩ := hv
      have hX0 := hX.lt
      replace hX := hX.grown hgq hXp
      replace hB := hB.grown hgq hBp
      have hsq := hgq.size
      have HLq := Lib.hid (goodQ.len hrq)
      have HQ := Lib.hid hrq
      clear hgq hrq
      have x0 := hX.cell 0 rfl
      have z0 := hX.free 0
      have k0 := only_setCell (World.grownBy.refl wq (some w1.heap.size)) 0 (.int .i64 1)
      have hX1 := hX.set 0 (.int .i64 1)
      have HQ1 := Lib.hid (goodQ.kept HQ.out fun b hb hl => k0.block b hl (fun e => by injection e with e; have := hb.1; omega))
      go_wp2_with (refine store_part rfl 40 (.tmp 80) (.tmp 78) rfl w1.heap.size 4 qs rfl rfl 57 [natV 1, natV mo, natV va.1, natV va.2] qZero ([.string ⟨#[]⟩, .slice none 0 0, .slice none 0 0, .bool false] ++ (zeroE7 ++ stEnd Stm.zero)) hX1 rfl (by rw [HLq.out]; rfl) (by rw [HLq.out]; kernel_rfl) (goodQ.one HQ1.out) ?_)
      intro wt hXt hgt hzt
      have hB1 := (hB.grown k0 (by omega)).grown hgt (by omega)
      have ha1 := (ha.own k0 (by omega)).own hgt (by omega)
      have HQt := Lib.hid (goodQ.kept HQ1.out fun b hb hl => hgt.block b hl (fun e => by injection e with e; have := hb.1; omega))
      clear k0 hgt hzt x0 z0 hX hX1 hB ha HQ HQ1
      obtain ⟨cs, hS, hrep⟩ : ∃ cs, Blk wt w1.heap.size cs 57 ∧ StmRep wt (Fp w4.heap.size []) { stm0 mo va with kind := 1, query := q } cs := ⟨_, hXt, stm_query (mo := mo) (va := va) HQt.out⟩
      have hB := hB1
      have ha := ha1
      have HRep := Lib.hid hrep
      clear hrep
      have HRok : Hid (r = .ok { stm0 mo va with kind := 1, query := q } jq dq) := Lib.hid HR.out.symm
      clear hXt hB1 ha1 HQt HR
      have HL := Lib.hid (goodStm.len HRep.out)
      go_wp2_with (first | (refine wpList_load_mid rfl 57 (.tmp 3) rfl w1.heap.size 0 rfl cs _ hS.all Tryz.underlying57 rfl (by rw [HL.out]; kernel_rfl) ?_) | (refine store_blk rfl 57 (.tmp 2) (.tmp 81) rfl w.heap.size cs rfl rfl 57 _ hB (by rw [HL.out]; kernel_rfl) (by rw [HL.out]; rfl) (goodStm.one HRep.out) ?_))
      intro wz hBz hgz hzz
      have haz := ha.own hgz (Nat.le_refl _)
      have HRz := Lib.hid (goodStm.kept HRep.out (w' := wz) fun b hb hl => hgz.block b hl (fun e => by injection e with e; have := hb.1; omega))
      clear hgz hzz hS HRep
      go_wp2_with fail
      refine bodyPost_ret (results_cell_row Tryz.results16 _ _ w.heap.size _ _ _ _ rfl hBz Tryz.underlying57 rfl (by simp only [List.size_toArray]; rw [HL.out]; kernel_rfl)) rfl ?_
      exact at_ok haz HRok.out ⟨_, rfl, goodStm.mono HRz.out fun b hb _ => ⟨by have := hb.1; omega, by simp⟩⟩ (by omega)
end Go.Proofs.YtpmncgbpbcgfaaaGreatDoor
