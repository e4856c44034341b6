import Derived.Test.YtpmncgbpbcgfaaaGreatDoorSxL
import Derived.Great.CaseRows
/-
  A simple query: sel.
-/
namespace Go.Proofs.YtpmncgbpbcgfaaaGreatDoor
open Go.RowKit
set_option linter.unusedVariables false
set_option linter.unusedSimpArgs false

theorem info_join : (Tryz.prog.info? 115).map (fun i => (i.zero, i.size, i.bytes)) = some (some (.agg #[.string ⟨#[]⟩, .string ⟨#[]⟩, .int .i64 0, .int .i64 0, .int .i64 0, .int .i64 0, .bool false, .int .i64 0, .int .i64 0, .int .i64 0, .int .i64 0, .string ⟨#[]⟩, .string ⟨#[]⟩, .slice none 0 0]), 14, 160) := by kernel_rfl
set_option maxHeartbeats 20000000 in
set_option maxRecDepth 100000 in
theorem sel_call (m : Nat) (p : Nat) (v : Value) (T : List Tok) (n : Nat) (w : World) (i : Nat) (d : Bool) (h : St w p v T i n d) (hm : 3 * (T.length - i) + 3 ≤ m) :
    Calls Tryz.prog 107 #[.pointer (some ⟨p, 0, none⟩)] w (PPost w p v T i n (aggR SelRep w.heap.size) (pSel m (cores T) i d)) := by
  obtain ⟨r, hr⟩ : ∃ r, pSel m (cores T) i d = r := ⟨_, rfl⟩
  rw [hr]
  rw [pSel_eq] at hr
  have HR := Lib.hid hr
  have ha := At.start h
  clear hr h
  obtain ⟨i0', hi0', hz0, hz1, hz2⟩ := info_parts info_join
  go_enter Tryz.func107, Tryz.ntmps107
  go_wp2_with fail
  refine name_alloc2 (K := fun W => Calls _ _ _ W _) fun w1 hP hB hw1 hz1' => ?_
  replace ha := ha.below hw1
  have hz1'' : w.heap.size + 2 ≤ w1.heap.size := by omega
  clear hw1 hz1'
  have hPp : w.heap.size ≠ p := by have := ha.hp; omega
  have hBp : w.heap.size + 1 ≠ p := by have := ha.hp; omega
  refine at_wordB ha _ [68, 73, 83, 84, 73, 78, 67, 84] rfl HR (fun ds j0 w2 HR hx2 hij0 ha hg2 => ?_)
  clear hx2
  replace hP := hP.grown hg2 hPp
  replace hB := hB.grown hg2 hBp
  have hs2 := hg2.size
  clear hg2
  go_upto_region 2 with (fail)
  refine name_alloc (K := Code.wp _ _ _ _) fun w3 hX hw3 hz3 => ?_
  have hle3 := ha.le
  replace ha := ha.below hw3
  replace hP := hP.below hw3
  replace hB := hB.below hw3
  have hz3' : w2.heap.size + 1 ≤ w3.heap.size := by omega
  clear hw3 hz3
  have hI : SelI w p v T i n w2.heap.size ⟨ds, [], Src.zero, [], false, E.zero, []⟩ (.slice none 0 0) (.slice none 0 0) (.slice none 0 0) zeroE7 j0 d w3 := ⟨ha, hij0, hP, hB, hX, ⟨.inl ⟨rfl, rfl⟩, .inl ⟨rfl, rfl⟩, zeroE_rep _ _, .inl ⟨rfl, rfl⟩⟩, by omega⟩
  clear hP hB hX ha
  generalize w2.heap.size = gs at hI hs2 hle3 hz3' ⊢
  have bx := hI.box.cell 0 rfl
  go_wp2_with fail
  refine at_symbolB hI.at_ _ [42] rfl HR (fun b j4 w4 HR hx4 hij4 ha hg4 => ?_)
  replace hI := hI.call ha hij4 hg4
  have hs4 := hg4.size
  clear hx4 hg4 bx ha
  go_upto_if 10 with (fail)
  go_cut [] (fun wx => ∃ j d items vi, SelI w p v T i n gs ⟨ds, items, Src.zero, [], false, E.zero, []⟩ vi (.slice none 0 0) (.slice none 0 0) zeroE7 j d wx ∧ pSelF m ⟨ds, items, Src.zero, [], false, E.zero, []⟩ (cores T) j d = r)
  case first =>
    rcases b with _ | _
    · have HR : Hid ((pList m (pItem m) >>= fun l => pSelF m ⟨ds, l, Src.zero, [], false, E.zero, []⟩) (cores T) j4 d = r) := HR
      have bx := hI.box.cell 0 rfl
      go_wp2_with fail
      have hlo := hI.lo
      have hlt := hI.sel.lt
      have hij := hI.ij
      have hpw := hI.at_.hp
      refine at_list (list_call (pItem m) 126 _ enters_sel1 p v T j4 n w (fun l wx => ItemsI w4 p gs w.heap.size w4.heap.size (.bool ds) (selTail ⟨ds, [], Src.zero, [], false, E.zero, []⟩ (.slice none 0 0) (.slice none 0 0) zeroE7) l wx) (fun l a b h hg => h.grown hg (by omega) (by omega) (by omega)) (fun wx ix dx lx hix hlx hax hIx => sel1_step w4 m p gs w.heap.size w4.heap.size _ _ v T n j4 w (by omega) (Nat.le_refl _) (by omega) (by omega) (by omega) (by omega) wx ix dx lx hix hlx hax hIx) w4 j4 d (Nat.le_refl _) hI.at_ hI.toItems m (by omega)) HR (fun l j5 d5 w5 HR hl ha hij5 => ?_) (fun j c w' hr hg => ⟨rfl, PPost.failed hr.out hg⟩)
      obtain ⟨u, hI5⟩ := hI.ofItems hl ha hij5
      clear hI bx hl ha
      go_wp2_with fail
      go_meet
      exact ⟨j5, d5, l, u, hI5, HR.out⟩
    · have x1 := hI.sel.cell 1 rfl
      have z1 := hI.sel.free 1
      have lt1 := hI.sel.lt
      go_wp2_with fail
      go_meet
      exact ⟨j4, d, _, _, hI.star, HR.out⟩
  case rest =>
    obtain ⟨j, d', items, vi, hI', hr⟩ := hcut
    clear hI HR
    have hI := hI'
    clear hI'
    unfold pSelF at hr
    have HR := Lib.hid hr
    clear hr
    have bx := hI.box.cell 0 rfl
    go_wp2_with fail
    refine name_alloc (K := fun W => Calls _ _ _ W _) fun w6 hT hw6 hz6 => ?_
    have hle6 := hI.at_.le
    replace hI := hI.below hw6
    clear bx hw6
    refine at_words1 hI.at_ hT (by omega) [70, 82, 79, 77] rfl HR (fun w7 HR ha hg7 => ?_) (fun j c w' hr hg => ⟨rfl, PPost.failed hr.out hg⟩)
    replace hI := hI.call ha (by omega) hg7
    clear hT hg7 ha hz6 hle6
    have bx := hI.box.cell 0 rfl
    go_wp2_with fail
    refine at_call (source_call p v T _ n _ w7 hI.at_.st) hI.at_ HR (fun s j8 d8 val w8 HR hv ha hij8 hg8 => ?_) (fun j c w' hr hg => ⟨rfl, PPost.failed hr.out hg⟩)
    obtain rfl := hv
    replace hI := hI.call ha hij8 hg8
    clear hg8 ha bx
    go_wp2_with (refine store_part rfl 28 (.tmp 22) (.tmp 21) rfl gs 2 (srcCells s) rfl rfl 36 [.bool ds, vi] (srcCells Src.zero) ([.slice none 0 0, .bool false] ++ (zeroE7 ++ [.slice none 0 0])) hI.sel rfl rfl (by kernel_rfl) (one_src s) ?_)
    intro w9 hX9 hg9 hz9
    replace hI : SelI w p v T i n gs ⟨ds, items, s, [], false, E.zero, []⟩ vi (.slice none 0 0) (.slice none 0 0) zeroE7 j8 d8 w9 := hI.put hg9 hX9 ⟨hI.is.items, hI.is.joins, hI.is.cond, hI.is.group⟩
    clear hX9 hg9 hz9
    have hr := HR.out
    unfold pSelJ at hr
    replace HR := Lib.hid hr
    clear hr
    have hJ := JoinsI.start hI
    have hijI := hI.ij
    have hleI := hI.at_.st.le
    clear hI
    generalize w9.heap.size = base at hJ
    go_wp2_with fail
    go_loopg [] (T.length - j8) (fun gk wr => ∃ j d l vj k, JoinsRel w p v T i n gs base m ds items s vi r gk j d l vj k wr)
    case atStart => exact ⟨j8, d8, [], _, m, ⟨by omega, hJ, by omega, by simp, HR.out⟩⟩
    case round =>
      obtain ⟨j1, d1, l, vj, k, ⟨hgk, hJ1, hfuel, hlen, hpr⟩⟩ := hrel
      clear hJ HR
      have hle1 := hJ1.at_.st.le
      have hij1 := hJ1.ij
      obtain ⟨k, rfl⟩ : ∃ q, k = q + 1 := ⟨k - 1, by omega⟩
      have HR := Lib.hid (joins_step hpr)
      clear hpr
      have bx := hJ1.box.cell 0 rfl
      go_wp2_with fail
      refine at_wordB hJ1.at_ _ [76, 69, 70, 84] rfl HR (fun left j2 w2' HR hlt2 hij2 ha hg2 => ?_)
      have hJ2 := hJ1.call ha hij2 hg2
      clear hJ1 bx ha hg2
      obtain ⟨jn, hjn⟩ : ∃ jn, aheadB (cores T) j2 0 2 [74, 79, 73, 78] = jn := ⟨_, rfl⟩
      have HR2 : Hid ((if (left && !jn) = true then pWrong else pWord [74, 79, 73, 78] >>= fun b => if b = true then pSource >>= fun s' => pWords [[79, 78]] >>= fun _ => pExpr m >>= fun e => pJoins m k (l ++ [⟨s', left, e⟩]) >>= fun js => pSelW m ⟨ds, items, s, js, false, E.zero, []⟩ else pSelW m ⟨ds, items, s, l, false, E.zero, []⟩) (cores T) j2 d1 = r) := Lib.hid (by rw [← hjn]; exact HR.out)
      clear HR
      go_upto_region 8 with (fail)
      go_cut [30] (fun c30 wx => c30 = .bool (left && !jn) ∧ JoinsI w p v T i n gs base ⟨ds, items, s, [], false, E.zero, []⟩ vi vj l j2 d1 wx)
      case first =>
        rcases left with _ | _
        · go_wp2_with fail
          go_meet
          exact ⟨rfl, hJ2⟩
        · have bx := hJ2.box.cell 0 rfl
          go_wp2_with fail
          refine ahead_use hJ2.at_.st 0 2 (by omega) _ [74, 79, 73, 78] rfl (fun w3 hx hs3 hg3 => ?_) (fun w3 hx hs3 hg3 => ?_)
          · have hJ3 := hJ2.call (hJ2.at_.call hg3 hs3) (Nat.le_refl _) hg3
            have hj : jn = true := hjn.symm.trans hx
            clear bx hg3 hs3 hx
            go_wp2_with fail
            go_meet
            exact ⟨by rw [hj]; rfl, hJ3⟩
          · have hJ3 := hJ2.call (hJ2.at_.call hg3 hs3) (Nat.le_refl _) hg3
            have hj : jn = false := hjn.symm.trans hx
            clear bx hg3 hs3 hx
            go_wp2_with fail
            go_meet
            exact ⟨by rw [hj]; rfl, hJ3⟩
      case rest =>
        obtain ⟨rfl, hJ3⟩ := hcut
        clear hJ2 hjn
        have bx := hJ3.box.cell 0 rfl
        rcases hb : (left && !jn) with _ | _
        · have HR3 : Hid ((pWord [74, 79, 73, 78] >>= fun b => if b = true then pSource >>= fun s' => pWords [[79, 78]] >>= fun _ => pExpr m >>= fun e => pJoins m k (l ++ [⟨s', left, e⟩]) >>= fun js => pSelW m ⟨ds, items, s, js, false, E.zero, []⟩ else pSelW m ⟨ds, items, s, l, false, E.zero, []⟩) (cores T) j2 d1 = r) := Lib.hid (by have h := HR2.out; rw [hb] at h; simpa using h)
          clear HR2 hb
          go_wp2_with fail
          refine at_word hJ3.at_ _ [74, 79, 73, 78] rfl HR3 (fun w4 HR4 ha4 hg4 => ?_) (fun w4 HR4 ha4 hg4 => ?_)
          · have hJ4 := hJ3.call ha4 (by omega) hg4
            clear hJ3 bx hg4 HR3 ha4
            have bx := hJ4.box.cell 0 rfl
            go_wp2_with fail
            refine at_call (source_call p v T _ n _ w4 hJ4.at_.st) hJ4.at_ HR4 (fun s' j5 d5 val w5 HR5 hv ha5 hij5 hg5 => ?_) (fun j c w' hr hg => ⟨rfl, PPost.failed hr.out hg⟩)
            obtain rfl := hv
            have hga := hg5
            have hJ5 := hJ4.call ha5 hij5 hg5
            have hs5 := hg5.size
            clear bx hg5 HR4 ha5
            have bx := hJ5.box.cell 0 rfl
            have lbx := hJ5.box.lt
            unfold srcCells natV strV
            go_wp2_with fail
            refine name_alloc2 (K := fun W => Calls _ _ _ W _) fun w6 hY hT hw6 hz6 => ?_
            have hYe : w4.heap.size ≤ w5.heap.size := hs5
            have hle5 := hJ5.at_.le
            replace hga := grown_below hga hw6
            have ha6 := hJ5.at_.below hw6
            have hY0 : w5.heap.size ≠ p := by have := ha6.hp; omega
            clear bx lbx hw6 hJ5
            refine at_words1 ha6 hT (by omega) [79, 78] rfl HR5 (fun w7 HR7 ha7 hg7 => ?_) (fun j c w' hr hg => ⟨rfl, PPost.failed hr.out hg⟩)
            replace hga := grown_trans hga hg7
            replace hY := hY.grown hg7 hY0
            have hJ7 := hJ4.call ha7 (by omega) hga
            have hs7 := hg7.size
            clear hT hg7 HR5 ha6
            have bx := hJ7.box.cell 0 rfl
            go_wp2_with fail
            refine at_call (expr_call m p v T n w7 _ _ ha7.st (by have := ha7.st.le; omega)) ha7 HR7 (fun e j8 d8 val w8 HR8 hv ha8 hij8 hg8 => ?_) (fun j c w' hr hg => ⟨rfl, PPost.failed hr.out hg⟩)
            obtain ⟨es, rfl, hre⟩ := hv
            obtain ⟨e0, e1, e2, e3, e4, e5, E', e6, e7, rfl⟩ := erep_lit hre
            have HE := Lib.hid hre
            replace hga := grown_trans hga hg8
            replace hY := hY.grown hg8 hY0
            have hs8 := hg8.size
            clear bx hre hg8 HR7 ha7 hJ7
            go_wp2_with (refine store_part rfl 34 (.tmp 45) (.tmp 44) rfl w5.heap.size 7 [.int .i64 e0, .int .i64 e1, .int .i64 e2, .int .i64 e3, .string e4, .string e5, .slice E' e6 e7] rfl rfl 115 (srcCells s' ++ [.bool left]) zeroE7 [] hY rfl rfl (by kernel_rfl) (goodE.one HE.out) ?_)
            intro w9 hY9 hg9 hz9
            have hz9' : w8.heap.size ≤ w9.heap.size := by omega
            have hz6' : w5.heap.size + 1 + 1 ≤ w6.heap.size := by omega
            clear hz9 hz6
            replace hga := grown_new hga hg9 (by omega)
            have ha9 := ha8.own hg9 (by omega)
            replace HE := Lib.hid (goodE.kept HE.out fun q hq hl => hg9.block q hl (fun h => by injection h with h; have := hq.1; omega))
            have hJ9 := hJ4.call ha9 (by omega) hga
            clear hg9 hY ha8
            obtain ⟨A8, c8', rfl⟩ := hJ4.own.form
            have y8 := hJ9.sel.cell 8 rfl
            have HLT : Hid (∀ g, (Value.slice A8 l.length c8').ownBlock = some g → base ≤ g ∧ g < w4.heap.size) := Lib.hid (fun g e => hJ4.own.blk g e)
            have hb4 := hJ4.le
            have hlT := hJ4.at_.st.tk.len
            have hl2 := hJ4.at_.st.le
            have q0 := hY9.cell 0 rfl
            have q1 := hY9.cell 1 rfl
            have q2 := hY9.cell 2 rfl
            have q3 := hY9.cell 3 rfl
            have q4 := hY9.cell 4 rfl
            have q5 := hY9.cell 5 rfl
            have q6 := hY9.cell 6 rfl
            have q7 := hY9.cell 7 rfl
            have q8 := hY9.cell 8 rfl
            have q9 := hY9.cell 9 rfl
            have q10 := hY9.cell 10 rfl
            have q11 := hY9.cell 11 rfl
            have q12 := hY9.cell 12 rfl
            have q13 := hY9.cell 13 rfl
            go_wp2_with (at_builtin; refine push_own goodJn rfl (.tmp 47) (.tmp 49) 29 rfl base 115 i0' _ 160 Tryz.underlying29 hi0' hz0 hz1 hz2 rfl (by omega) (by omega) (.slice A8 l.length c8') l rfl (hJ9.own.below goodJn (below1 w9 _)) w9.heap.size 1 [.string ⟨s'.table.toArray⟩, .string ⟨s'.alias_.toArray⟩, .int .i64 (s'.clause.kind : Int), .int .i64 (s'.clause.lo : Int), .int .i64 (s'.clause.hi : Int), .int .i64 s'.under, .bool left, .int .i64 e0, .int .i64 e1, .int .i64 e2, .int .i64 e3, .string e4, .string e5, .slice E' e6 e7] ⟨s', left, e⟩ rfl (Blk.new w9 _ _) ?hr ?hl ?hb ?_)
            case hr => exact goodJn.below ⟨_, goodE.mono HE.out fun q hq hl => ⟨by have := hq.1; omega, fun h => by have := (HLT.out q h).2; have := hq.1; omega⟩, rfl⟩ (below1 w9 _)
            case hl => omega
            case hb => simp; omega
            intro gg cap w10 hO10 hg10 hat10
            have hJ10 := (hJ9.below (below1 w9 (.cells #[.string ⟨s'.table.toArray⟩, .string ⟨s'.alias_.toArray⟩, .int .i64 (s'.clause.kind : Int), .int .i64 (s'.clause.lo : Int), .int .i64 (s'.clause.hi : Int), .int .i64 s'.under, .bool left, .int .i64 e0, .int .i64 e1, .int .i64 e2, .int .i64 e3, .string e4, .string e5, .slice E' e6 e7] 115))).push hg10 (fun g h => (HLT.out g h).1) hO10
            have hS10 := (hJ9.sel.alloc (.cells #[.string ⟨s'.table.toArray⟩, .string ⟨s'.alias_.toArray⟩, .int .i64 (s'.clause.kind : Int), .int .i64 (s'.clause.lo : Int), .int .i64 (s'.clause.hi : Int), .int .i64 s'.under, .bool left, .int .i64 e0, .int .i64 e1, .int .i64 e2, .int .i64 e3, .string e4, .string e5, .slice E' e6 e7] 115)).push hg10 (fun h => by have := (HLT.out _ h).1; have := hJ9.gsb; omega)
            have x8 := hS10.cell 8 rfl
            have z8 := hS10.free 8
            have hle8 := ha9.st.le
            clear y8 q0 q1 q2 q3 q4 q5 q6 q7 q8 q9 q10 q11 q12 q13 hg10 hO10 hat10 hJ9 HE hY9
            go_wp2_with fail
            go_roundg (T.length - j8)
            case measure => omega
            case rel => exact ⟨j8, d8, l ++ [⟨s', left, e⟩], _, k, ⟨by omega, hJ10, by omega, by simp; omega, HR8.out⟩⟩
          · have hJ4 := hJ3.call ha4 (Nat.le_refl _) hg4
            clear hJ3 bx hg4 HR3 ha4
            have hI := hJ4.done
            clear hJ4
            have HR5 := Lib.hid (show pSelW m ⟨ds, items, s, l, false, E.zero, []⟩ (cores T) j2 d1 = r from HR4.out)
            clear HR4
            have hr := HR5.out
            unfold pSelW at hr
            have HR := Lib.hid hr
            clear hr HR5
            have bx := hI.box.cell 0 rfl
            go_wp2_with fail
            refine at_wordB hI.at_ _ [87, 72, 69, 82, 69] rfl HR (fun b j5 w5 HR hx5 hij5 ha5 hg5 => ?_)
            replace hI := hI.call ha5 hij5 hg5
            clear bx hx5 ha5 hg5
            go_upto_if 53 with (fail)
            go_cut [] (fun wx => ∃ j d hw c es, SelI w p v T i n gs ⟨ds, items, s, l, hw, c, []⟩ vi vj (.slice none 0 0) es j d wx ∧ pSelG m ⟨ds, items, s, l, hw, c, []⟩ (cores T) j d = r)
            case first =>
              rcases b with _ | _
              · go_wp2_with fail
                go_meet
                exact ⟨j5, d1, false, E.zero, zeroE7, hI, HR.out⟩
              · have HR : Hid ((pExpr m >>= fun e => pSelG m ⟨ds, items, s, l, true, e, []⟩) (cores T) j5 d1 = r) := HR
                have bx := hI.box.cell 0 rfl
                go_wp2_with fail
                have hij' := hI.ij
                refine at_call (expr_call m p v T n w5 _ _ hI.at_.st (by omega)) hI.at_ HR (fun e j6 d6 val w6 HR hv ha6 hij6 hg6 => ?_) (fun j c w' hr hg => ⟨rfl, PPost.failed hr.out hg⟩)
                obtain ⟨es, rfl, hre⟩ := hv
                obtain ⟨e0, e1, e2, e3, e4, e5, E', e6, e7, rfl⟩ := erep_lit hre
                have hlo := hI.lo
                have hlt := hI.sel.lt
                have HE := Lib.hid (goodE.made (L := [gs, w.heap.size + 1, w.heap.size]) hre (show w.heap.size ≤ w5.heap.size by omega) (by intro q hq; simp at hq; omega))
                replace hI := hI.call ha6 hij6 hg6
                clear bx hre ha6 hg6
                have x9 := hI.sel.cell 9 rfl
                have z9 := hI.sel.free 9
                have k9 := only_setCell (World.grownBy.refl w6 (some gs)) 9 (.bool true)
                have hI9 : SelI w p v T i n gs ⟨ds, items, s, l, true, E.zero, []⟩ vi vj (.slice none 0 0) zeroE7 j6 d6 (w6.setCell ⟨gs, 9, none⟩ (.bool true)) := hI.put k9 (hI.sel.set 9 (.bool true)) ⟨hI.is.items, hI.is.joins, hI.is.cond, hI.is.group⟩
                replace HE := Lib.hid (goodE.own HE.out k9 (by simp))
                clear k9
                go_wp2_with (refine store_part rfl 34 (.tmp 57) (.tmp 55) rfl gs 10 [.int .i64 e0, .int .i64 e1, .int .i64 e2, .int .i64 e3, .string e4, .string e5, .slice E' e6 e7] rfl rfl 36 ([.bool ds, vi] ++ (srcCells s ++ [vj, .bool true])) zeroE7 [.slice none 0 0] hI9.sel rfl rfl (by kernel_rfl) (goodE.one HE.out) ?_)
                intro w7 hX7 hg7 hz7
                have hI7 : SelI w p v T i n gs ⟨ds, items, s, l, true, e, []⟩ vi vj (.slice none 0 0) [.int .i64 e0, .int .i64 e1, .int .i64 e2, .int .i64 e3, .string e4, .string e5, .slice E' e6 e7] j6 d6 w7 := hI9.put hg7 hX7 ⟨hI9.is.items, hI9.is.joins, HE.out, hI9.is.group⟩
                clear x9 z9 hI hI9 hX7 hg7 HE
                go_wp2_with fail
                go_meet
                exact ⟨j6, d6, true, e, _, hI7, HR.out⟩
            case rest =>
              obtain ⟨j6, d6, hw, c, es, hI6, hr⟩ := hcut
              clear hI HR
              have hI := hI6
              clear hI6
              unfold pSelG at hr
              have HR := Lib.hid hr
              clear hr
              have bx := hI.box.cell 0 rfl
              go_wp2_with fail
              refine at_wordB hI.at_ _ [71, 82, 79, 85, 80] rfl HR (fun b j7 w7 HR hx7 hij7 ha7 hg7 => ?_)
              replace hI := hI.call ha7 hij7 hg7
              clear bx hx7 ha7 hg7
              go_upto_if 59 with (fail)
              go_cut [] (fun wx => ∃ j d g vg, SelI w p v T i n gs ⟨ds, items, s, l, hw, c, g⟩ vi vj vg es j d wx ∧ r = .ok ⟨ds, items, s, l, hw, c, g⟩ j d)
              case first =>
                rcases b with _ | _
                · go_wp2_with fail
                  go_meet
                  exact ⟨j7, d6, [], _, hI, HR.out.symm⟩
                · have HR : Hid ((pWords [[66, 89]] >>= fun _ => pList m pRef >>= fun g => (pure ⟨ds, items, s, l, hw, c, g⟩ : P Sel)) (cores T) j7 d6 = r) := HR
                  have bx := hI.box.cell 0 rfl
                  go_wp2_with fail
                  refine name_alloc (K := fun W => Calls _ _ _ W _) fun w8 hT hw8 hz8 => ?_
                  have hle8 := hI.at_.le
                  replace hI := hI.below hw8
                  clear bx hw8
                  refine at_words1 hI.at_ hT (by omega) [66, 89] rfl HR (fun w9 HR ha9 hg9 => ?_) (fun j c w' hr hg => ⟨rfl, PPost.failed hr.out hg⟩)
                  replace hI := hI.call ha9 (by omega) hg9
                  clear hT hg9 ha9 hz8
                  have bx := hI.box.cell 0 rfl
                  go_wp2_with fail
                  have hlo := hI.lo
                  have hlt := hI.sel.lt
                  have hij := hI.ij
                  have hpw := hI.at_.hp
                  refine at_list (list_call pRef 129 _ enters_sel2 p v T (j7 + 1) n w (fun g wx => GroupsI w9 p gs w.heap.size w9.heap.size (selPre ⟨ds, items, s, l, hw, c, []⟩ vi vj es) g wx) (fun l a b h hg => h.grown hg (by omega) (by omega) (by omega)) (fun wx ix dx lx hix hlx hax hIx => sel2_step w9 p gs w.heap.size w9.heap.size _ (selPre_len _ _ _ hI.is.cond.len) v T n (j7 + 1) w (by omega) (Nat.le_refl _) (by omega) (by omega) (by omega) wx ix dx lx hix hlx hax hIx) w9 (j7 + 1) d6 (Nat.le_refl _) hI.at_ hI.toGroups m (by omega)) HR (fun g j10 d10 w10 HR hl ha hij10 => ?_) (fun j c w' hr hg => ⟨rfl, PPost.failed hr.out hg⟩)
                  obtain ⟨u, hI10⟩ := hI.ofGroups hl ha hij10
                  clear hI bx hl ha
                  go_wp2_with fail
                  go_meet
                  exact ⟨j10, d10, g, u, hI10, HR.out.symm⟩
              case rest =>
                obtain ⟨j8, d8, g, vg, hI8, hr⟩ := hcut
                clear hI HR
                have hI := hI8
                clear hI8
                have HR := Lib.hid hr
                clear hr
                have hsl : (selCells ⟨ds, items, s, l, hw, c, g⟩ vi vj vg es).length = 18 := by simp [selCells, srcCells, hI.is.cond.len]
                have hsr : SelRep wc (selFp w gs) ⟨ds, items, s, l, hw, c, g⟩ (selCells ⟨ds, items, s, l, hw, c, g⟩ vi vj vg es) := ⟨vi, vj, vg, es, hI.is, rfl⟩
                have HSR := Lib.hid hsr
                have HSL := Lib.hid hsl
                clear hsr hsl
                go_wp2_with (first | (refine wpList_load_mid rfl 36 (.tmp 3) rfl gs 0 rfl (selCells ⟨ds, items, s, l, hw, c, g⟩ vi vj vg es) _ hI.sel.all Tryz.underlying36 rfl (by rw [HSL.out]; kernel_rfl) ?_) | (refine store_blk rfl 36 (.tmp 2) (.tmp 66) rfl (w.heap.size + 1) (selCells ⟨ds, items, s, l, hw, c, g⟩ vi vj vg es) rfl rfl 36 _ hI.res (by rw [HSL.out]; kernel_rfl) (by rw [HSL.out]; rfl) (goodSel.one HSR.out) ?_))
                intro w9 hB9 hg9 hz9
                have ha9 := hI.at_.own hg9 (by omega)
                have hsr9 := goodSel.own HSR.out hg9 (by simp)
                clear hg9
                go_wp2_with fail
                refine bodyPost_ret (results_cell_row Tryz.results107 _ _ (w.heap.size + 1) _ _ _ _ rfl hB9 Tryz.underlying36 rfl (by simp only [List.size_toArray]; rw [HSL.out]; kernel_rfl)) rfl ?_
                exact at_ok ha9 HR.out ⟨_, rfl, goodSel.all hsr9⟩ hI.ij
        · have HR3 : Hid ((pWrong : P Sel) (cores T) j2 d1 = r) := Lib.hid (by have h := HR2.out; rw [hb] at h; simpa using h)
          clear HR2 hb
          go_wp2_with fail
          exact at_wrong hJ3.at_ HR3 (fun j c w' hr hg => ⟨rfl, PPost.failed hr.out hg⟩)
end Go.Proofs.YtpmncgbpbcgfaaaGreatDoor

/-
  Great structs in a walk: their cells stay a list.
-/
namespace Go.Proofs.YtpmncgbpbcgfaaaGreatDoor
open Go.RowKit
set_option linter.unusedVariables false
set_option linter.unusedSimpArgs false

theorem below_new {w w' : World} {o : Obj} (hg : (w.alloc o).grownBy w' (some w.heap.size)) : Below w.heap.size w w' := by
  have hb := below1 w o
  exact ⟨hg.os.trans hb.os, hg.tape.trans hb.tape, hg.output.trans hb.output, Nat.le_trans hb.size hg.size, fun b hl => (hg.block b (by simp; omega) (fun e => by injection e with e; omega)).trans (hb.block b hl)⟩
section
variable {P : Program} {ops : Array Oper} {rest : List Oper} {o : Oper} {a : Act} {w : World} {Q : Exit → Act → World → Prop}
/-- a whole struct into a new block -/
theorem store_new (hgd : o.guard = none) (ty : TypeId) (x y : Operand) (ho : o.op = .store ty x y) (cs : List Value)
    (hx : a.eval x = .pointer (some ⟨w.heap.size, 0, none⟩)) (hy : a.eval y = .agg cs.toArray) (t : TypeId) (zs : List Value) (hi : (P.info? ty).map (·.size) = some cs.length)
    (hold : zs.length = cs.length) (h1 : ∀ u ∈ cs, u.oneCell' = true)
    (h : ∀ w', Blk w' w.heap.size cs t → Below w.heap.size w w' → w'.heap.size = w.heap.size + 1 → wpList P ops Q rest (a.put o.dst undef) w') : wpList P ops Q (o :: rest) a (w.alloc (.cells zs.toArray t)) := by
  refine store_blk hgd ty x y ho w.heap.size cs hx hy t zs (Blk.new w zs t) hi hold h1 fun w' hb hg hz => h w' hb (below_new hg) (by rw [hz]; simp)
/-- a struct from its parts -/
theorem build_is (hg : o.guard = none) (t : TypeId) (parts : Array (Nat × Operand)) (ho : o.op = .build t parts) (cs : List Value) (hf : P.built t (parts.map fun (i, x) => (i, a.eval x)).toList = some cs.toArray)
    (h : wpList P ops Q rest (a.put o.dst (.agg cs.toArray)) w) : wpList P ops Q (o :: rest) a w :=
  wpList_build hg t parts ho (by rw [hf]; rfl) (by rw [hf]; exact h)
/-- a slice of two structs -/
theorem build_two (hg : o.guard = none) (t e : TypeId) (k1 k2 : Tmp) (ho : o.op = .buildSlice t 2 #[(0, .tmp k1), (1, .tmp k2)]) (s : Nat) (cs1 cs2 : List Value) (h1 : a.eval (.tmp k1) = .agg cs1.toArray) (h2 : a.eval (.tmp k2) = .agg cs2.toArray)
    (hu : P.underlying t = some (.slice e)) (hsz : (P.info? e).map (·.size) = some s) (hz : ((P.info? e).bind (·.zero)).isSome = true) (hs : 0 < s) (hs' : s ≤ 1000) (l1 : cs1.length = s) (l2 : cs2.length = s)
    (h : wpList P ops Q rest (a.put o.dst (.slice (some ⟨w.heap.size, 0, none⟩) 2 2)) (w.alloc (.cells (cs1 ++ cs2).toArray e))) : wpList P ops Q (o :: rest) a w := by
  refine Go.Great.wpList_buildRows hg t e _ s [.agg cs1.toArray, .agg cs2.toArray] ho (fun i => if i = 0 then k1 else k2) _ rfl _ rfl hu hsz hz hs (by simp) (by simp; omega) rfl ?_ ?_ ?_
  · intro v hv
    simp at hv
    rcases hv with rfl | rfl
    · simp [Value.cells, l1]
    · simp [Value.cells, l2]
  · intro i hi
    have : i = 0 ∨ i = 1 := by simp at hi; omega
    rcases this with rfl | rfl
    · simpa using h1
    · simpa using h2
  · simpa [Value.cells] using h
end
end Go.Proofs.YtpmncgbpbcgfaaaGreatDoor
