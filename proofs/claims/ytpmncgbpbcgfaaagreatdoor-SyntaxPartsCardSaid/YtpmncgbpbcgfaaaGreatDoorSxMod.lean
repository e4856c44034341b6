/-
  Modifications: INSERT, UPDATE, DELETE.
-/
import Derived.Test.YtpmncgbpbcgfaaaGreatDoorSxSets
namespace Go.Proofs.YtpmncgbpbcgfaaaGreatDoor
open Go.RowKit
set_option linter.unusedVariables false
set_option linter.unusedSimpArgs false

/-- a statement in its block: base: what it uses lies from there on -/
def StmAt (base gs : Nat) (a : Stm) (w : World) : Prop := ∃ cs, Blk w gs cs 57 ∧ StmRep w (Fp base []) a cs
def stPre (a : Stm) : List Value := [natV a.kind, natV a.mode, natV a.valid.1, natV a.valid.2] ++ (qZero ++ [strV a.name])
def stEnd (a : Stm) : List Value := tblCells a.table (.slice none 0 0) (.slice none 0 0) (.slice none 0 0) ++ ([.slice none 0 0] ++ (chgCells a.change ++ (hldCells a.hold ++ [natV a.number])))
/-- a statement with its mode alone -/
def stm0 (mo : Nat) (va : Nat × Nat) : Stm := { Stm.zero with mode := mo, valid := va }
structure MI (w0 wb : World) (p : Nat) (v : Value) (T : List Tok) (i n gs gp gt : Nat) (cs : List Value) (j : Nat) (d : Bool) (w : World) : Prop where
  si : SI w0 wb p v T i n gs cs j d w
  box : Blk w gp [.pointer (some ⟨p, 0, none⟩)] 77
  ptr : Blk w gt [.pointer (some ⟨gs, 0, none⟩)] 101
  gp0 : wb.heap.size ≤ gp
  gt0 : wb.heap.size ≤ gt
section
variable {w0 wb w w' : World} {p : Nat} {v : Value} {T : List Tok} {i n gs gp gt : Nat} {cs cs' : List Value} {j j' : Nat} {d d' : Bool}
theorem MI.far (h : MI w0 wb p v T i n gs gp gt cs j d w) : gp ≠ p ∧ gt ≠ p ∧ gp ≠ gs ∧ gt ≠ gs := by
  have h1 := h.si.at_.hp
  have h2 := h.si.le0
  have h3 := h.si.gsb
  have h4 := h.gp0
  have h5 := h.gt0
  omega
theorem MI.call (h : MI w0 wb p v T i n gs gp gt cs j d w) (ha : At w0 w' p v T j' n d') (hij : j ≤ j') (hg : w.grownBy w' (some p)) : MI w0 wb p v T i n gs gp gt cs j' d' w' :=
  ⟨h.si.call ha hij hg, h.box.grown hg h.far.1, h.ptr.grown hg h.far.2.1, h.gp0, h.gt0⟩
theorem MI.below (h : MI w0 wb p v T i n gs gp gt cs j d w) (hb : Below w.heap.size w w') : MI w0 wb p v T i n gs gp gt cs j d w' := ⟨h.si.below hb, h.box.below hb, h.ptr.below hb, h.gp0, h.gt0⟩
theorem MI.put (h : MI w0 wb p v T i n gs gp gt cs j d w) (hg : w.grownBy w' (some gs)) (hb : Blk w' gs cs' 57) : MI w0 wb p v T i n gs gp gt cs' j d w' := ⟨h.si.put hg hb, h.box.grown hg h.far.2.2.1, h.ptr.grown hg h.far.2.2.2, h.gp0, h.gt0⟩
theorem MI.set (h : MI w0 wb p v T i n gs gp gt cs j d w) (k : Nat) (u : Value) : MI w0 wb p v T i n gs gp gt (cs.set k u) j d (w.setCell ⟨gs, k, none⟩ u) := h.put (only_setCell (World.grownBy.refl _ _) k u) (h.si.st.set k u)
theorem MI.drewN (h : MI w0 wb p v T i n gs gp gt cs j d w) (k : Nat) : MI w0 wb p v T i n gs gp gt cs j d (w.drewN k) := h.below (belowD w k)
end
theorem zeroQ_rep (w : World) (F : Nat → Prop) : QRep w F Qry.zero qZero := qrep_iff.2 ⟨selZero, .slice none 0 0, .slice none 0 0, rfl, zeroSel_rep _ _, .inl ⟨rfl, rfl⟩, .inl ⟨rfl, rfl⟩⟩
theorem stm_rows {w : World} {base : Nat} {a : Stm} {l : List (List E)} {vr : Value} (hq : a.query = Qry.zero) (hs : a.sets = []) (hc : a.cond = E.zero) (ht : a.table = Tbl.zero) (hh : a.checks = []) (h : LRep 1 RowRep w (Fp base []) l vr) : StmRep w (Fp base []) { a with rows := l } (stPre a ++ (vr :: (.slice none 0 0 :: (.bool a.hasWhere :: (zeroE7 ++ stEnd a))))) :=
  ⟨qZero, vr, .slice none 0 0, zeroE7, .slice none 0 0, .slice none 0 0, .slice none 0 0, .slice none 0 0, ⟨by simp only [hq]; exact zeroQ_rep _ _, h, .inl ⟨hs, rfl⟩, by simp only [hc]; exact zeroE_rep _ _, ⟨.inl ⟨by simp only [ht]; rfl, rfl⟩, .inl ⟨by simp only [ht]; rfl, rfl⟩, .inl ⟨by simp only [ht]; rfl, rfl⟩⟩, .inl ⟨hh, rfl⟩⟩, rfl⟩
theorem stm_sets {w : World} {base : Nat} {a : Stm} {l : List (List UInt8 × E)} {vs : Value} {hw : Bool} {c : E} {es : List Value} (hq : a.query = Qry.zero) (hs : a.rows = []) (ht : a.table = Tbl.zero) (hh : a.checks = []) (h : LRep 8 SetRep w (Fp base []) l vs) (he : ERep w (Fp base []) c es) : StmRep w (Fp base []) { a with sets := l, hasWhere := hw, cond := c } (stPre a ++ (.slice none 0 0 :: (vs :: (.bool hw :: (es ++ stEnd a))))) :=
  ⟨qZero, .slice none 0 0, vs, es, .slice none 0 0, .slice none 0 0, .slice none 0 0, .slice none 0 0, ⟨by simp only [hq]; exact zeroQ_rep _ _, .inl ⟨hs, rfl⟩, h, he, ⟨.inl ⟨by simp only [ht]; rfl, rfl⟩, .inl ⟨by simp only [ht]; rfl, rfl⟩, .inl ⟨by simp only [ht]; rfl, rfl⟩⟩, .inl ⟨hh, rfl⟩⟩, rfl⟩
theorem Fr.trans {b b' gs p : Nat} {w1 w2 w3 : World} (h1 : Fr b gs p w1 w2) (h2 : Fr b' gs p w2 w3) (hb : b ≤ b') : Fr b gs p w1 w3 := fun q hq h3 h4 => (h2 q (by omega) h3 h4).trans (h1 q hq h3 h4)
set_option maxHeartbeats 8000000 in
set_option maxRecDepth 100000 in
theorem insert_call (m : Nat) (w0 : World) (p : Nat) (v : Value) (T : List Tok) (n gs mo : Nat) (va : Nat × Nat) (w : World) (i : Nat) (d : Bool) (ha : At w0 w p v T i n d) (hb : Blk w gs (stmZ (stm0 mo va)) 57) (h0 : w0.heap.size ≤ gs) (hm : 3 * (T.length - i) + 3 ≤ m) :
    Calls Tryz.prog 35 #[.pointer (some ⟨p, 0, none⟩), .string ⟨#[73, 78, 83, 69, 82, 84]⟩, .pointer (some ⟨gs, 0, none⟩)] w (SPost w0 p v T i n (pModification m [73, 78, 83, 69, 82, 84] (stm0 mo va) (cores T) i d) fun x val w' => val = .tuple #[] ∧ StmAt w.heap.size gs x w' ∧ Fr w.heap.size gs p w w' ∧ w.heap.size ≤ w'.heap.size) := by
  obtain ⟨r, hr⟩ : ∃ r, pModification m [73, 78, 83, 69, 82, 84] (stm0 mo va) (cores T) i d = r := ⟨_, rfl⟩
  rw [hr]
  unfold pModification at hr
  simp (decide := true) only [if_true, if_false] at hr
  have HR := Lib.hid hr
  have hI := SI.start ha hb h0
  have hleT := ha.st.le
  clear hr ha hb
  go_enter Tryz.func35, Tryz.ntmps35
  go_upto_region 1 with (fail)
  refine name_alloc2 (K := Code.wp _ _ _ _) fun w1 hP hT hw1 hz1 => ?_
  have hM : MI w0 w p v T i n gs w.heap.size (w.heap.size + 1) (stmZ (stm0 mo va)) i d w1 := ⟨hI.below hw1, hP, hT, Nat.le_refl _, Nat.le_succ _⟩
  have hz1' : w.heap.size + 1 + 1 ≤ w1.heap.size := by omega
  clear hP hT hw1 hz1 hI
  generalize hgp : w.heap.size = gp at hM ⊢
  generalize hgt : gp + 1 = gt at hM ⊢
  have x0 := hM.si.st.cell 0 rfl
  have z0 := hM.si.st.free 0
  have t0 := hM.ptr.cell 0 rfl
  go_upto_region 8 with (fail)
  have hM2 : MI w0 w p v T i n gs gp gt (stmZ { stm0 mo va with kind := 2 }) i d (w1.setCell ⟨gs, 0, none⟩ (.int .i64 2)) := hM.set 0 (.int .i64 2)
  generalize w1.setCell ⟨gs, 0, none⟩ (.int .i64 2) = w2 at hM2 ⊢
  clear x0 z0 t0 hM
  have hM := hM2
  clear hM2
  have q0 := hM.box.cell 0 rfl
  go_wp2_with fail
  refine name_alloc (K := fun W => Calls _ _ _ W _) fun w3 hW hw' hz' => ?_
  have hle' := hM.si.at_.le
  replace hM := hM.below hw'
  clear hw' hz' q0
  refine at_words1 hM.si.at_ hW (by omega) [73, 78, 84, 79] rfl HR (fun w3' HR ha hg => ?_) (fun j c w' hr hg => ⟨rfl, SPost.failed hr.out hg⟩)
  replace hM := hM.call ha (by omega) hg
  clear hW ha hg hle'
  go_upto_region 9 with (fail)
  go_cut [] (fun wx => ∃ s j d, MI w0 w p v T i n gs gp gt (stmZ { stm0 mo va with kind := 2, name := s }) j d wx ∧ (pWords [[86, 65, 76, 85, 69, 83]] >>= fun _ => pList m (pRow m) >>= fun l => (pure { stm0 mo va with kind := 2, name := s, rows := l } : P Stm)) (cores T) j d = r)
  case first =>
    have q0 := hM.box.cell 0 rfl
    have t0 := hM.ptr.cell 0 rfl
    have hn1 := hM.far.2.2.2
    have hn2 := Ne.symm hn1
    have hn3 := hM.far.2.2.1
    have hn4 := Ne.symm hn3
    go_region_with (go_at_call 58; refine at_call (name_call p v T _ n _ _ (hM.drewN 1).si.at_.st) (hM.drewN 1).si.at_ HR (fun s j5 d5 val w5 HR5 hv ha5 hij5 hg5 => ?_) (fun j c w' hr hg => ⟨rfl, SPost.failed hr.out hg⟩); obtain ⟨rfl, hsl⟩ := hv; unfold strV; have hM5 := (hM.drewN 1).call ha5 hij5 hg5; have t05 := hM5.ptr.cell 0 rfl; have x27 := hM5.si.st.cell 27 rfl; have z27 := hM5.si.st.free 27)
    all_goals
      have hM6 := hM5.set 27 (.string ⟨s.toArray⟩)
      have HM6 := Lib.hid hM6
      clear hM6
      go_wp2_with fail
      go_meet
      exact ⟨s, j5, d5, HM6.out, HR5.out⟩
  case rest =>
    obtain ⟨s, j3, d3, hM3, hr⟩ := hcut
    have HR := Lib.hid hr
    clear hM hr
    have hM := hM3
    clear hM3
    have q0 := hM.box.cell 0 rfl
    go_wp2_with fail
    refine name_alloc (K := fun W => Calls _ _ _ W _) fun w4 hW hw' hz' => ?_
    have hle' := hM.si.at_.le
    replace hM := hM.below hw'
    clear hw' hz' q0
    refine at_words1 hM.si.at_ hW (by omega) [86, 65, 76, 85, 69, 83] rfl HR (fun w4' HR ha hg => ?_) (fun j c w' hr hg => ⟨rfl, SPost.failed hr.out hg⟩)
    replace hM := hM.call ha (by omega) hg
    clear hW ha hg hle'
    have q0 := hM.box.cell 0 rfl
    go_wp2_with fail
    have hfar := hM.far
    have hij := hM.si.ij
    have hlt := hM.si.gsb
    have hsz := hM.si.sz
    have hgp0 := hM.gp0
    have hgt0 := hM.gt0
    have hle0 := hM.si.le0
    have hp0 := hM.si.at_.hp
    have hlp := hM.box.lt
    have hlq := hM.ptr.lt
    have hleL := hM.si.at_.st.le
    refine at_list (list_call (pRow m) 60 _ enters_rows p v T _ n w0 (fun l wx => ListI 1 32 RowRep w4' p gs gp gt w4'.heap.size (stPre { stm0 mo va with kind := 2, name := s }) (.slice none 0 0 :: (.bool false :: (zeroE7 ++ stEnd { stm0 mo va with kind := 2, name := s }))) l wx) (fun l a b h hg => h.grown goodRow hg (by omega) (by omega) (by omega) (by omega)) (fun wx ix dx lx hix hlx hax hIx => rows_step m w4' p gs gp gt w4'.heap.size _ _ rfl v T n _ w0 (by omega) (by omega) (by omega) (by omega) (by omega) (by omega) (by omega) (by omega) (by omega) wx ix dx lx hix hlx hax hIx) w4' _ _ (Nat.le_refl _) hM.si.at_ ⟨hM.box, hM.ptr, ⟨_, hM.si.st, OwnL.nil _ _⟩, Nat.le_refl _, Fr.refl _ _ _ _⟩ m (by omega)) HR (fun l j5 d5 w5 HR hl ha5 hij5 => ?_) (fun j c w' hr hg => ⟨rfl, SPost.failed hr.out hg⟩)
    obtain ⟨hP5, hT5, ⟨vr, hS5, hO5⟩, hb5, hf5⟩ := hl
    have hF5 := hM.si.fr.trans hf5 hsz
    have HL := Lib.hid ((hO5.done goodRow).mono goodRow (F' := Fp w.heap.size []) fun b hb _ => ⟨by omega, by simp⟩)
    clear q0 hO5 hf5
    go_wp2_with fail
    go_end0
    exact SPost.mkOk HR.out.symm ha5 (by omega) ⟨rfl, ⟨_, hS5, stm_rows (a := { stm0 mo va with kind := 2, name := s }) rfl rfl rfl rfl rfl HL.out⟩, hF5, by omega⟩
set_option maxHeartbeats 8000000 in
set_option maxRecDepth 100000 in
theorem delete_call (m : Nat) (w0 : World) (p : Nat) (v : Value) (T : List Tok) (n gs mo : Nat) (va : Nat × Nat) (w : World) (i : Nat) (d : Bool) (ha : At w0 w p v T i n d) (hb : Blk w gs (stmZ (stm0 mo va)) 57) (h0 : w0.heap.size ≤ gs) (hm : 3 * (T.length - i) + 3 ≤ m) :
    Calls Tryz.prog 35 #[.pointer (some ⟨p, 0, none⟩), .string ⟨#[68, 69, 76, 69, 84, 69]⟩, .pointer (some ⟨gs, 0, none⟩)] w (SPost w0 p v T i n (pModification m [68, 69, 76, 69, 84, 69] (stm0 mo va) (cores T) i d) fun x val w' => val = .tuple #[] ∧ StmAt w.heap.size gs x w' ∧ Fr w.heap.size gs p w w' ∧ w.heap.size ≤ w'.heap.size) := by
  obtain ⟨r, hr⟩ : ∃ r, pModification m [68, 69, 76, 69, 84, 69] (stm0 mo va) (cores T) i d = r := ⟨_, rfl⟩
  rw [hr]
  unfold pModification at hr
  simp (decide := true) only [if_true, if_false] at hr
  have HR := Lib.hid hr
  have hI := SI.start ha hb h0
  have hleT := ha.st.le
  clear hr ha hb
  go_enter Tryz.func35, Tryz.ntmps35
  go_upto_region 1 with (fail)
  refine name_alloc2 (K := Code.wp _ _ _ _) fun w1 hP hT hw1 hz1 => ?_
  have hM : MI w0 w p v T i n gs w.heap.size (w.heap.size + 1) (stmZ (stm0 mo va)) i d w1 := ⟨hI.below hw1, hP, hT, Nat.le_refl _, Nat.le_succ _⟩
  have hz1' : w.heap.size + 1 + 1 ≤ w1.heap.size := by omega
  clear hP hT hw1 hz1 hI
  generalize hgp : w.heap.size = gp at hM ⊢
  generalize hgt : gp + 1 = gt at hM ⊢
  have x0 := hM.si.st.cell 0 rfl
  have z0 := hM.si.st.free 0
  have t0 := hM.ptr.cell 0 rfl
  go_upto_region 3 with (fail)
  have hM2 : MI w0 w p v T i n gs gp gt (stmZ { stm0 mo va with kind := 4 }) i d (w1.setCell ⟨gs, 0, none⟩ (.int .i64 4)) := hM.set 0 (.int .i64 4)
  generalize w1.setCell ⟨gs, 0, none⟩ (.int .i64 4) = w2 at hM2 ⊢
  clear x0 z0 t0 hM
  have hM := hM2
  clear hM2
  have q0 := hM.box.cell 0 rfl
  go_wp2_with fail
  refine name_alloc (K := fun W => Calls _ _ _ W _) fun w3 hW hw' hz' => ?_
  have hle' := hM.si.at_.le
  replace hM := hM.below hw'
  clear hw' hz' q0
  refine at_words1 hM.si.at_ hW (by omega) [70, 82, 79, 77] rfl HR (fun w3' HR ha hg => ?_) (fun j c w' hr hg => ⟨rfl, SPost.failed hr.out hg⟩)
  replace hM := hM.call ha (by omega) hg
  clear hW ha hg hle'
  go_upto_region 4 with (fail)
  go_cut [] (fun wx => ∃ s j d, MI w0 w p v T i n gs gp gt (stmZ { stm0 mo va with kind := 4, name := s }) j d wx ∧ (pWhere m >>= fun w => (pure { stm0 mo va with kind := 4, name := s, hasWhere := w.1, cond := w.2 } : P Stm)) (cores T) j d = r)
  case first =>
    have q0 := hM.box.cell 0 rfl
    have t0 := hM.ptr.cell 0 rfl
    have hn1 := hM.far.2.2.2
    have hn2 := Ne.symm hn1
    have hn3 := hM.far.2.2.1
    have hn4 := Ne.symm hn3
    go_region_with (go_at_call 58; refine at_call (name_call p v T _ n _ _ (hM.drewN 1).si.at_.st) (hM.drewN 1).si.at_ HR (fun s j5 d5 val w5 HR5 hv ha5 hij5 hg5 => ?_) (fun j c w' hr hg => ⟨rfl, SPost.failed hr.out hg⟩); obtain ⟨rfl, hsl⟩ := hv; unfold strV; have hM5 := (hM.drewN 1).call ha5 hij5 hg5; have t05 := hM5.ptr.cell 0 rfl; have x27 := hM5.si.st.cell 27 rfl; have z27 := hM5.si.st.free 27)
    all_goals
      have hM6 := hM5.set 27 (.string ⟨s.toArray⟩)
      have HM6 := Lib.hid hM6
      clear hM6
      go_wp2_with fail
      go_meet
      exact ⟨s, j5, d5, HM6.out, HR5.out⟩
  case rest =>
    obtain ⟨s, j3, d3, hM3, hr⟩ := hcut
    have HR := Lib.hid hr
    clear hM hr
    have hM := hM3
    clear hM3
    have q0 := hM.box.cell 0 rfl
    have t0 := hM.ptr.cell 0 rfl
    go_wp2_with fail
    have hij := hM.si.ij
    have hle := hM.si.at_.st.le
    refine at_step (where_call m w0 p v T n gs (stPre { stm0 mo va with kind := 4, name := s } ++ [.slice none 0 0, .slice none 0 0]) (stEnd { stm0 mo va with kind := 4, name := s }) rfl _ _ _ hM.si.at_ hM.si.st h0 (by omega)) HR (fun x j6 d6 val w6 HX HR hj ha6 hij6 => ?_) (fun j c w' hr hg => ⟨rfl, SPost.failed hr.out hg⟩)
    obtain ⟨rfl, es, hS6, hE6, hF6, hs6⟩ := hj
    have hF7 := hM.si.fr.trans hF6 hM.si.sz
    have hsz := hM.si.sz
    have HE := Lib.hid (goodE.mono hE6 (F' := Fp w.heap.size []) fun b hb _ => ⟨by have := hb.1; omega, by simp⟩)
    clear q0 t0 hE6 HX
    go_wp2_with fail
    go_end0
    exact SPost.mkOk HR.out.symm ha6 (by omega) ⟨rfl, ⟨_, hS6, stm_sets (a := { stm0 mo va with kind := 4, name := s }) (l := []) rfl rfl rfl rfl (.inl ⟨rfl, rfl⟩) HE.out⟩, hF7, by omega⟩
set_option maxHeartbeats 8000000 in
set_option maxRecDepth 100000 in
theorem update_call (m : Nat) (w0 : World) (p : Nat) (v : Value) (T : List Tok) (n gs mo : Nat) (va : Nat × Nat) (w : World) (i : Nat) (d : Bool) (ha : At w0 w p v T i n d) (hb : Blk w gs (stmZ (stm0 mo va)) 57) (h0 : w0.heap.size ≤ gs) (hm : 3 * (T.length - i) + 3 ≤ m) :
    Calls Tryz.prog 35 #[.pointer (some ⟨p, 0, none⟩), .string ⟨#[85, 80, 68, 65, 84, 69]⟩, .pointer (some ⟨gs, 0, none⟩)] w (SPost w0 p v T i n (pModification m [85, 80, 68, 65, 84, 69] (stm0 mo va) (cores T) i d) fun x val w' => val = .tuple #[] ∧ StmAt w.heap.size gs x w' ∧ Fr w.heap.size gs p w w' ∧ w.heap.size ≤ w'.heap.size) := by
  obtain ⟨r, hr⟩ : ∃ r, pModification m [85, 80, 68, 65, 84, 69] (stm0 mo va) (cores T) i d = r := ⟨_, rfl⟩
  rw [hr]
  unfold pModification at hr
  simp (decide := true) only [if_true, if_false] at hr
  have HR := Lib.hid hr
  have hI := SI.start ha hb h0
  have hleT := ha.st.le
  clear hr ha hb
  go_enter Tryz.func35, Tryz.ntmps35
  go_upto_region 1 with (fail)
  refine name_alloc2 (K := Code.wp _ _ _ _) fun w1 hP hT hw1 hz1 => ?_
  have hM : MI w0 w p v T i n gs w.heap.size (w.heap.size + 1) (stmZ (stm0 mo va)) i d w1 := ⟨hI.below hw1, hP, hT, Nat.le_refl _, Nat.le_succ _⟩
  have hz1' : w.heap.size + 1 + 1 ≤ w1.heap.size := by omega
  clear hP hT hw1 hz1 hI
  generalize hgp : w.heap.size = gp at hM ⊢
  generalize hgt : gp + 1 = gt at hM ⊢
  go_upto_region 13 with (fail)
  go_cut [] (fun wx => ∃ s j d, MI w0 w p v T i n gs gp gt (stmZ { stm0 mo va with kind := 3, name := s }) j d wx ∧ (pWords [[83, 69, 84]] >>= fun _ => pList m (pSet m) >>= fun l => pWhere m >>= fun w => (pure { stm0 mo va with kind := 3, name := s, sets := l, hasWhere := w.1, cond := w.2 } : P Stm)) (cores T) j d = r)
  case first =>
    have q0 := hM.box.cell 0 rfl
    have t0 := hM.ptr.cell 0 rfl
    have hn1 := hM.far.2.2.2
    have hn2 := Ne.symm hn1
    have hn3 := hM.far.2.2.1
    have hn4 := Ne.symm hn3
    go_region_with (go_at_call 58; refine at_call (name_call p v T _ n _ _ (hM.drewN 1).si.at_.st) (hM.drewN 1).si.at_ HR (fun s j5 d5 val w5 HR5 hv ha5 hij5 hg5 => ?_) (fun j c w' hr hg => ⟨rfl, SPost.failed hr.out hg⟩); obtain ⟨rfl, hsl⟩ := hv; unfold strV; have hM5 := (hM.drewN 1).call ha5 hij5 hg5; have t05 := hM5.ptr.cell 0 rfl; have x0 := hM5.si.st.cell 0 rfl; have z0 := hM5.si.st.free 0; have x27 := hM5.si.st.cell 27 rfl; have z27 := hM5.si.st.free 27)
    all_goals
      have hM6 := (hM5.set 0 (.int .i64 3)).set 27 (.string ⟨s.toArray⟩)
      have HM6 := Lib.hid hM6
      clear hM6
      go_wp2_with fail
      go_meet
      exact ⟨s, j5, d5, HM6.out, HR5.out⟩
  case rest =>
    obtain ⟨s, j3, d3, hM3, hr⟩ := hcut
    have HR := Lib.hid hr
    clear hM hr
    have hM := hM3
    clear hM3
    have q0 := hM.box.cell 0 rfl
    go_wp2_with fail
    refine name_alloc (K := fun W => Calls _ _ _ W _) fun w4 hW hw' hz' => ?_
    have hle' := hM.si.at_.le
    replace hM := hM.below hw'
    clear hw' hz' q0
    refine at_words1 hM.si.at_ hW (by omega) [83, 69, 84] rfl HR (fun w4' HR ha hg => ?_) (fun j c w' hr hg => ⟨rfl, SPost.failed hr.out hg⟩)
    replace hM := hM.call ha (by omega) hg
    clear hW ha hg hle'
    have q0 := hM.box.cell 0 rfl
    go_wp2_with fail
    have hfar := hM.far
    have hij := hM.si.ij
    have hlt := hM.si.gsb
    have hsz := hM.si.sz
    have hgp0 := hM.gp0
    have hgt0 := hM.gt0
    have hle0 := hM.si.le0
    have hp0 := hM.si.at_.hp
    have hlp := hM.box.lt
    have hlq := hM.ptr.lt
    have hleL := hM.si.at_.st.le
    refine at_list (list_call (pSet m) 63 _ enters_sets p v T _ n w0 (fun l wx => ListI 8 88 SetRep w4' p gs gp gt w4'.heap.size (stPre { stm0 mo va with kind := 3, name := s } ++ [.slice none 0 0]) (.bool false :: (zeroE7 ++ stEnd { stm0 mo va with kind := 3, name := s })) l wx) (fun l a b h hg => h.grown goodSet hg (by omega) (by omega) (by omega) (by omega)) (fun wx ix dx lx hix hlx hax hIx => sets_step m w4' p gs gp gt w4'.heap.size _ _ rfl v T n _ w0 (by omega) (by omega) (by omega) (by omega) (by omega) (by omega) (by omega) (by omega) (by omega) wx ix dx lx hix hlx hax hIx) w4' _ _ (Nat.le_refl _) hM.si.at_ ⟨hM.box, hM.ptr, ⟨_, hM.si.st, OwnL.nil _ _⟩, Nat.le_refl _, Fr.refl _ _ _ _⟩ m (by omega)) HR (fun l j5 d5 w5 HR hl ha5 hij5 => ?_) (fun j c w' hr hg => ⟨rfl, SPost.failed hr.out hg⟩)
    obtain ⟨hP5, hT5, ⟨vr, hS5, hO5⟩, hb5, hf5⟩ := hl
    have hF5 := hM.si.fr.trans hf5 hsz
    have HL := Lib.hid ((hO5.done goodSet).mono goodSet (F' := Fp w.heap.size []) fun b hb _ => ⟨by omega, by simp⟩)
    clear q0 hO5 hf5
    have q0 := hP5.cell 0 rfl
    have t0 := hT5.cell 0 rfl
    go_wp2_with fail
    have hle := ha5.st.le
    refine at_step (where_call m w0 p v T n gs (stPre { stm0 mo va with kind := 3, name := s } ++ [.slice none 0 0, vr]) (stEnd { stm0 mo va with kind := 3, name := s }) rfl w5 _ _ ha5 hS5 h0 (by omega)) HR (fun x j6 d6 val w6 HX HR hj ha6 hij6 => ?_) (fun j c w' hr hg => ⟨rfl, SPost.failed hr.out hg⟩)
    obtain ⟨rfl, es, hS6, hE6, hF6, hs6⟩ := hj
    have hF7 := hF5.trans hF6 (by omega)
    have HE := Lib.hid (goodE.mono hE6 (F' := Fp w.heap.size []) fun b hb _ => ⟨by have := hb.1; omega, by simp⟩)
    have HL6 := Lib.hid (HL.out.kept goodSet (w' := w6) fun b hb hl => hF6 b hl (by have := hb.1; omega) (by have := hb.1; omega))
    clear q0 t0 hE6 HX
    go_wp2_with fail
    go_end0
    exact SPost.mkOk HR.out.symm ha6 (by omega) ⟨rfl, ⟨_, hS6, stm_sets (a := { stm0 mo va with kind := 3, name := s }) rfl rfl rfl rfl HL6.out HE.out⟩, hF7, by omega⟩
end Go.Proofs.YtpmncgbpbcgfaaaGreatDoor
