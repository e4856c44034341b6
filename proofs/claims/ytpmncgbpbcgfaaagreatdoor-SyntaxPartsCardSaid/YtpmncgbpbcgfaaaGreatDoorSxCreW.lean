/-
  The creation of a table: create.
-/
import Derived.Test.YtpmncgbpbcgfaaaGreatDoorSxK
namespace Go.Proofs.YtpmncgbpbcgfaaaGreatDoor
open Go.RowKit
set_option linter.unusedVariables false
set_option linter.unusedSimpArgs false

def pCreT (m : Nat) (a : Stm) (s : List UInt8) (cols : List Col) (key : List Nat) (frns : List Frn) : P Stm := do
  let checks ← pChecksGo m m []
  pNeed [41]
  pure { a with kind := 5, table := ⟨s, cols, key, frns⟩, checks := checks }
def pCreF (m : Nat) (a : Stm) (s : List UInt8) (cols : List Col) (key : List Nat) : P Stm := do
  let frns ← pFrnsGo m cols m []
  pCreT m a s cols key frns
def pCreK (m : Nat) (a : Stm) (s : List UInt8) (cols : List Col) : P Stm := do
  pWords [[75, 69, 89]]
  let key ← pColumns m cols
  pCreF m a s cols key
theorem pCreate_eq (m : Nat) (a : Stm) : pCreate m a = (pWords [[84, 65, 66, 76, 69]] >>= fun _ => pName >>= fun s => pNeed [40] >>= fun _ => pColumn >>= fun c => pNeed [44] >>= fun _ => pColsGo m [c] >>= fun cols => pCreK m a s cols) := by
  unfold pCreate pCreK pCreF pCreT
  rfl
set_option maxHeartbeats 20000000 in
set_option maxRecDepth 100000 in
theorem create_call (m : Nat) (w0 : World) (p : Nat) (v : Value) (T : List Tok) (n gs mo : Nat) (va : Nat × Nat) (w : World) (i : Nat) (d : Bool) (ha : At w0 w p v T i n d) (hb : Blk w gs (stmZ (stm0 mo va)) 57) (h0 : w0.heap.size ≤ gs) (hm : 3 * (T.length - i) + 3 ≤ m) :
    Calls Tryz.prog 65 #[.pointer (some ⟨p, 0, none⟩), .pointer (some ⟨gs, 0, none⟩)] w (SPost w0 p v T i n (pCreate m (stm0 mo va) (cores T) i d) fun x val w' => val = .tuple #[] ∧ StmAt w.heap.size gs x w' ∧ Fr w.heap.size gs p w w' ∧ w.heap.size ≤ w'.heap.size) := by
  obtain ⟨r, hr⟩ : ∃ r, pCreate m (stm0 mo va) (cores T) i d = r := ⟨_, rfl⟩
  rw [hr]
  rw [pCreate_eq] at hr
  have HR := Lib.hid hr
  have hI := SI.start ha hb h0
  have hleT := ha.st.le
  have hlT := ha.st.tk.len
  clear hr ha hb
  obtain ⟨i0', hi0', hz0, hz1, hz2⟩ := info_parts info_column
  obtain ⟨i1', hi1', hy0, hy1, hy2⟩ := info_parts info_foreign
  obtain ⟨i2', hi2', hx0, hx1, hx2⟩ := info_parts info_expr
  have x0 := hI.st.cell 0 rfl
  have z0 := hI.st.free 0
  have lgs := hI.st.lt
  go_enter Tryz.func65, Tryz.ntmps65
  go_upto_region 1 with (fail)
  have hI1 : SI w0 w p v T i n gs (stmZ { stm0 mo va with kind := 5 }) i d (w.setCell ⟨gs, 0, none⟩ (.int .i64 5)) := hI.set 0 (.int .i64 5)
  generalize w.setCell ⟨gs, 0, none⟩ (.int .i64 5) = w1 at hI1 ⊢
  clear x0 z0 lgs hI
  have hI := hI1
  clear hI1
  go_wp2_with fail
  refine name_alloc (K := fun W => Calls _ _ _ W _) fun w2 hW hw2 hz2' => ?_
  have hle2 := hI.at_.le
  replace hI := hI.below hw2
  clear hw2 hz2'
  refine at_words1 hI.at_ hW (by omega) [84, 65, 66, 76, 69] rfl HR (fun w3 HR ha hg3 => ?_) (fun j c w' hr hg => ⟨rfl, SPost.failed hr.out hg⟩)
  replace hI := hI.call ha (by omega) hg3
  clear hW ha hg3
  go_wp2_with fail
  refine at_call (name_call p v T _ n _ w3 hI.at_.st) hI.at_ HR (fun s j4 d4 val w4 HR hv ha hij4 hg4 => ?_) (fun j c w' hr hg => ⟨rfl, SPost.failed hr.out hg⟩)
  obtain ⟨rfl, hsl⟩ := hv
  replace hI := hI.call ha hij4 hg4
  clear ha hg4 hsl
  unfold strV
  go_wp2_with fail
  refine name_alloc (K := fun W => Calls _ _ _ W _) fun w5 hX hw5 hz5 => ?_
  have hz5' : w4.heap.size + 1 ≤ w5.heap.size := by omega
  have hsz4 := hI.sz
  replace hI := hI.below hw5
  have hC : CrI w0 w p v T i n gs w4.heap.size w5.heap.size (stmZ { stm0 mo va with kind := 5 }) s [] (.slice none 0 0) j4 d4 w5 := ⟨hI, hX, OwnL.nil _ _, hsz4, by omega, Nat.le_refl _⟩
  clear hI hX hw5 hz5
  generalize w4.heap.size = gx at hC hz5' hsz4 ⊢
  generalize hbase : w5.heap.size = base at hC
  refine at_need hC.si.at_ _ [40] rfl HR (fun w6 HR ha hg6 => ?_) (fun j c w' hr hg => ⟨rfl, SPost.failed hr.out hg⟩)
  replace hC := hC.call ha (by omega) hg6
  clear ha hg6 hbase
  go_upto_region 4 with (fail)
  go_cut [] (fun wx => ∃ c vc j d, CrI w0 w p v T i n gs gx base (stmZ { stm0 mo va with kind := 5 }) s [c] vc j d wx ∧ (pNeed [44] >>= fun _ => pColsGo m [c] >>= fun cols => pCreK m (stm0 mo va) s cols) (cores T) j d = r)
  case first =>
    have y1 := hC.tbl.cell 1 rfl
    have z1 := hC.tbl.free 1
    have HC := Lib.hid hC
    have hxb := hC.gxb
    have hbl := hC.le
    have hgx0 := hC.gx0
    have hfar := hC.far
    go_region_law (first | (refine step_push goodCol (by rfl) (.tmp 18) (.tmp 21) 43 (by rfl) base 49 i0' _ 32 Tryz.underlying43 hi0' hz0 hz1 hz2 (by rfl) (by omega) (by omega) (.slice none 0 0) [] (by rfl) (OwnL.nil _ _) w8.heap.size 1 [.string ⟨c.name.toArray⟩, .int .i64 (c.kind : Int), .bool c.nullable] c (by rfl) (Blk.new w8 _ _) rfl (by simp) (by simp; omega) ?_; intro gg cap w9 hO9 hg9; have hX9 := (HC8.out.tbl.alloc _).push hg9 (by simp [Value.ownBlock]); have y91 := hX9.cell 1 rfl; have z91 := hX9.free 1) | (go_simp; go_at_call 85; refine at_call (column_call p v T _ n _ _ (HC.out.below (belowD w6 1)).si.at_.st) (HC.out.below (belowD w6 1)).si.at_ HR (fun c j8 d8 val w8 HR8 hv ha8 hij8 hg8 => ?_) (fun j c w' hr hg => ⟨rfl, SPost.failed hr.out hg⟩); obtain rfl := hv; unfold colCells natV strV; have HC8 := Lib.hid ((HC.out.below (belowD w6 1)).call ha8 hij8 hg8); have y81 := HC8.out.tbl.cell 1 rfl; have z81 := HC8.out.tbl.free 1; have l81 := HC8.out.tbl.lt; have h68 : w6.heap.size ≤ w8.heap.size := hg8.size))
    all_goals
      have HC9 := Lib.hid (HC8.out.push (c := c) _ hg9 hO9)
      go_wp2_with fail
      go_meet
      exact ⟨c, _, j8, d8, HC9.out, HR8.out⟩
  case rest =>
    obtain ⟨c, vc, j6, d6, hC6, hr⟩ := hcut
    have HR := Lib.hid hr
    clear hC hr
    have hC := hC6
    clear hC6
    have hij6 := hC.si.ij
    go_wp2_with fail
    refine at_need hC.si.at_ _ [44] rfl HR (fun w7 HR ha hg7 => ?_) (fun j c w' hr hg => ⟨rfl, SPost.failed hr.out hg⟩)
    replace hC := hC.call ha (by omega) hg7
    have hle7 := ha.st.le
    clear ha hg7
    go_wp2_with fail
    go_loopg [] (T.length - (j6 + 1)) (fun gk wr => ∃ j d cols vc k, CrRel w0 w p v T i n gs gx base (stmZ { stm0 mo va with kind := 5 }) s (fun cols => pCreK m (stm0 mo va) s cols) r gk j d cols vc k wr)
    case atStart => exact ⟨j6 + 1, d6, [c], vc, m, ⟨by omega, hC, by omega, by simp, HR.out⟩⟩
    case round =>
      obtain ⟨j8, d8, cols, vc8, k, ⟨hgk, hC8, hfuel, hlen, hpr⟩⟩ := hrel
      clear hC HR
      have hle8 := hC8.si.at_.st.le
      have hij8 := hC8.si.ij
      obtain ⟨k, rfl⟩ : ∃ q, k = q + 1 := ⟨k - 1, by omega⟩
      have HR := Lib.hid (colsGo_step hpr)
      clear hpr
      go_wp2_with fail
      refine at_word hC8.si.at_ _ [80, 82, 73, 77, 65, 82, 89] rfl HR (fun w9 HR ha hg9 => ?_) (fun w9 HR ha hg9 => ?_)
      · have hC9 := hC8.call ha (by omega) hg9
        have hle9 := ha.st.le
        clear hC8 ha hg9
        have hT := hC9.done
        clear hC9
        unfold pCreK at HR
        go_wp2_with fail
        refine name_alloc (K := fun W => Calls _ _ _ W _) fun wa hW hwa hza => ?_
        have hlea := hT.si.at_.le
        replace hT := hT.below hwa
        clear hwa hza
        refine at_words1 hT.si.at_ hW (by omega) [75, 69, 89] rfl HR (fun wb HR ha hgb => ?_) (fun j c w' hr hg => ⟨rfl, SPost.failed hr.out hg⟩)
        replace hT := hT.call ha (by omega) hgb
        have hleb := ha.st.le
        clear hW ha hgb hlea
        obtain ⟨C0, C2, hvc⟩ := hT.cols_.form
        subst hvc
        have q0 := hT.tbl.cell 0 rfl
        have q1 := hT.tbl.cell 1 rfl
        have q2 := hT.tbl.cell 2 rfl
        have q3 := hT.tbl.cell 3 rfl
        have q4 := hT.tbl.cell 4 rfl
        go_wp2_with fail
        have hp0 := hT.si.at_.hp
        have hl0 := hT.si.le0
        have hgx0 := hT.gx0
        have hszT := hT.si.sz
        have hgxl := hT.tbl.lt
        refine at_call (columns_call m p v T _ n _ wb hT.si.at_.st (by omega) cols (fun b => Fp w.heap.size [gx] b ∧ b < wb.heap.size) s C0 none none C2 0 0 0 0 (hT.cols_.mono goodCol fun b hb hl => ⟨hb, hl⟩) (fun b hb => ⟨hb.2, by have := hb.1.1; omega⟩) (by omega)) hT.si.at_ HR (fun key jc dc val wc HR hv ha hijc hgc => ?_) (fun j c w' hr hg => ⟨rfl, SPost.failed hr.out hg⟩)
        have hT0 := Lib.hid hT
        have hkey := LRep.mono goodInt hv (F' := Fp w.heap.size [gx]) fun b hb _ => ⟨by have := hb.1; omega, by have := hb.1; simp; omega⟩
        obtain ⟨K0, K2, hvk⟩ := LRep.form hkey
        subst hvk
        replace hT := hT.call ha hijc hgc
        clear hT0 hv q0 q1 q2 q3 q4 ha hgc
        have x2 := hT.tbl.cell 2 rfl
        have z2 := hT.tbl.free 2
        have hTk := hT.setKey hkey
        clear hkey
        go_wp2_with fail
        generalize wc.setCell ⟨gx, 2, none⟩ (.slice K0 key.length K2) = wd at hTk ⊢
        clear hT x2 z2
        have hF := CfI.start hTk
        have hlec := hTk.si.at_.st.le
        have hijT := hTk.si.ij
        unfold pCreF at HR
        clear hTk
        generalize wd.heap.size = base2 at hF
        go_wp2_with fail
        go_loopg [] (T.length - jc) (fun gk wr => ∃ j d frns vf k, CfRel w0 w p v T i n gs gx base2 m (stmZ { stm0 mo va with kind := 5 }) s cols (.slice C0 cols.length C2) (.slice K0 key.length K2) key (fun frns => pCreT m (stm0 mo va) s cols key frns) r gk j d frns vf k wr)
        case atStart => exact ⟨jc, dc, [], _, m, ⟨by omega, hF, by omega, by simp, HR.out⟩⟩
        case round =>
          obtain ⟨je, de, l, vf, k, ⟨hgk2, hFe, hfuel2, hlen2, hpr⟩⟩ := hrel
          clear hF HR
          have hlee := hFe.si.at_.st.le
          have hije := hFe.si.ij
          obtain ⟨k, rfl⟩ : ∃ q, k = q + 1 := ⟨k - 1, by omega⟩
          have HR2 := Lib.hid (frnsGo_step hpr)
          clear hpr
          obtain ⟨a1, ha1⟩ : ∃ b, aheadB (cores T) je 0 5 [44] = b := ⟨_, rfl⟩
          obtain ⟨a2, ha2⟩ : ∃ b, aheadB (cores T) je 1 2 [70, 79, 82, 69, 73, 71, 78] = b := ⟨_, rfl⟩
          rw [ha1, ha2] at HR2
          go_upto_region 11 with (fail)
          go_cut [50] (fun c50 wx => c50 = .bool (a1 && a2) ∧ CfI w0 w p v T i n gs gx base2 (stmZ { stm0 mo va with kind := 5 }) s cols (.slice C0 cols.length C2) (.slice K0 key.length K2) vf key l je de wx)
          case first =>
            go_wp2_with fail
            refine ahead_use hFe.si.at_.st 0 5 (by omega) _ [44] rfl (fun w3 hx hs3 hg3 => ?_) (fun w3 hx hs3 hg3 => ?_)
            · have hF3 := hFe.call (hFe.si.at_.call hg3 hs3) (Nat.le_refl _) hg3
              have hj1 : a1 = true := ha1.symm.trans hx
              clear hg3 hs3 hx
              go_wp2_with fail
              refine ahead_use hF3.si.at_.st 1 2 (by omega) _ [70, 79, 82, 69, 73, 71, 78] rfl (fun w4 hx hs4 hg4 => ?_) (fun w4 hx hs4 hg4 => ?_)
              · have hF4 := hF3.call (hF3.si.at_.call hg4 hs4) (Nat.le_refl _) hg4
                have hj2 : a2 = true := ha2.symm.trans hx
                clear hg4 hs4 hx
                go_wp2_with fail
                go_meet
                exact ⟨by rw [hj1, hj2]; rfl, hF4⟩
              · have hF4 := hF3.call (hF3.si.at_.call hg4 hs4) (Nat.le_refl _) hg4
                have hj2 : a2 = false := ha2.symm.trans hx
                clear hg4 hs4 hx
                go_wp2_with fail
                go_meet
                exact ⟨by rw [hj1, hj2]; rfl, hF4⟩
            · have hF3 := hFe.call (hFe.si.at_.call hg3 hs3) (Nat.le_refl _) hg3
              have hj1 : a1 = false := ha1.symm.trans hx
              clear hg3 hs3 hx
              go_wp2_with fail
              go_meet
              exact ⟨by rw [hj1]; rfl, hF3⟩
          case rest =>
            obtain ⟨rfl, hF3⟩ := hcut
            clear hFe
            rcases hb : (a1 && a2) with _ | _
            · have HR3 : Hid (pCreT m (stm0 mo va) s cols key l (cores T) je de = r) := Lib.hid (by have h := HR2.out; rw [hb] at h; simpa using h)
              clear HR2 hb ha1 ha2
              have hT := hF3.done
              clear hF3
              have hr3 := HR3.out
              unfold pCreT at hr3
              have HRa := Lib.hid hr3
              clear hr3 HR3
              obtain ⟨V0, V2, hvf⟩ := hT.frns_.form
              subst hvf
              have hK := CkI.start (pre := ckPre { stm0 mo va with kind := 5 }) (post := ckPost { stm0 mo va with kind := 5 }) hT
              have hleK := hT.si.at_.st.le
              clear hT
              generalize wc.heap.size = base3 at hK
              go_wp2_with fail
              go_loopg [] (T.length - je) (fun gk wr => ∃ j d ch vh k, CkRel w0 w p v T i n gs gx base3 m (ckPre { stm0 mo va with kind := 5 }) (ckPost { stm0 mo va with kind := 5 }) ⟨s, cols, key, l⟩ (.slice C0 cols.length C2) (.slice K0 key.length K2) (.slice V0 l.length V2) (fun checks => pNeed [41] >>= fun _ => (pure { stm0 mo va with kind := 5, table := ⟨s, cols, key, l⟩, checks := checks } : P Stm)) r gk j d ch vh k wr)
              case atStart => exact ⟨je, de, [], _, m, ⟨by omega, hK, by omega, by simp, HRa.out⟩⟩
              case round =>
                obtain ⟨jf, df, ch, vh, k, ⟨hgk3, hKf, hfuel3, hlen3, hpr⟩⟩ := hrel
                clear hK HRa
                have hlef := hKf.si.at_.st.le
                have hijf := hKf.si.ij
                obtain ⟨k, rfl⟩ : ∃ q, k = q + 1 := ⟨k - 1, by omega⟩
                have HR := Lib.hid (checksGo_step hpr)
                clear hpr
                go_wp2_with fail
                refine at_symbol hKf.si.at_ _ [44] rfl HR (fun wg HR ha hgg => ?_) (fun wg HR ha hgg => ?_)
                · have hK1 := hKf.call ha (by omega) hgg
                  have hle1 := ha.st.le
                  clear hKf ha hgg
                  have HR : Hid ((pWords [[67, 72, 69, 67, 75]] >>= fun _ => pNeed [40] >>= fun _ => pExpr m >>= fun e => pNeed [41] >>= fun _ => pChecksGo m k (ch ++ [e]) >>= (fun checks => pNeed [41] >>= fun _ => (pure { stm0 mo va with kind := 5, table := ⟨s, cols, key, l⟩, checks := checks } : P Stm))) (cores T) (jf + 1) df = r) := HR
                  go_wp2_with fail
                  refine name_alloc (K := fun W => Calls _ _ _ W _) fun wh hW hwh hzh => ?_
                  have hleh := hK1.si.at_.le
                  replace hK1 := hK1.below hwh
                  clear hwh hzh
                  refine at_words1 hK1.si.at_ hW (by omega) [67, 72, 69, 67, 75] rfl HR (fun wi HR ha hgi => ?_) (fun j c w' hr hg => ⟨rfl, SPost.failed hr.out hg⟩)
                  replace hK1 := hK1.call ha (by omega) hgi
                  clear hW ha hgi hleh
                  go_wp2_with fail
                  refine at_need hK1.si.at_ _ [40] rfl HR (fun wq HR ha hgq => ?_) (fun j c w' hr hg => ⟨rfl, SPost.failed hr.out hg⟩)
                  have hKq := hK1.call ha (by omega) hgq
                  have hleq := ha.st.le
                  clear hK1 ha hgq
                  go_upto_region 21 with (fail)
                  go_cut [] (fun wx => ∃ e vh j d, CkI w0 w p v T i n gs gx base3 (ckPre { stm0 mo va with kind := 5 }) (ckPost { stm0 mo va with kind := 5 }) ⟨s, cols, key, l⟩ (.slice C0 cols.length C2) (.slice K0 key.length K2) (.slice V0 l.length V2) vh (ch ++ [e]) j d wx ∧ jf + 1 + 1 + 1 ≤ j ∧ (pNeed [41] >>= fun _ => pChecksGo m k (ch ++ [e]) >>= (fun checks => pNeed [41] >>= fun _ => (pure { stm0 mo va with kind := 5, table := ⟨s, cols, key, l⟩, checks := checks } : P Stm))) (cores T) j d = r)
                  case first =>
                    have ha := hKq.si.at_
                    obtain ⟨A8, c8', hvv⟩ := hKq.own.form
                    subst hvv
                    have hS := hKq.si.st
                    have hP := hKq.tbl
                    have HO := Lib.hid hKq.own
                    have HKQ := Lib.hid hKq
                    have hfar := hKq.far
                    have hgsp : gs ≠ p := hfar.2.2.2.2
                    have hgpp : gx ≠ p := hfar.1
                    have hgpgs : gx ≠ gs := hfar.2.1
                    have hbs : gs < base3 := hfar.2.2.2.1
                    have hbp : gx < base3 := hKq.gxb
                    have hbase : base3 ≤ wq.heap.size := hKq.le
                    have HF0 := Lib.hid (Fr.refl base3 gs p wq)
                    clear hKq
                    have r1 := hS.cell (u := .slice A8 ch.length c8') 43 rfl
                    have lgp : gx < wq.heap.size := hP.lt
                    have lgs : gs < wq.heap.size := hS.lt
                    have hZ := Blk.new wq [.int .i64 0, .int .i64 0, .int .i64 0, .int .i64 0, .string ⟨#[]⟩, .string ⟨#[]⟩, .slice none 0 0] 34
                    have haZ := ha.alloc (.cells #[.int .i64 0, .int .i64 0, .int .i64 0, .int .i64 0, .string ⟨#[]⟩, .string ⟨#[]⟩, .slice none 0 0] 34)
                    have hSZ := hS.alloc (.cells #[.int .i64 0, .int .i64 0, .int .i64 0, .int .i64 0, .string ⟨#[]⟩, .string ⟨#[]⟩, .slice none 0 0] 34)
                    have hPZ := hP.alloc (.cells #[.int .i64 0, .int .i64 0, .int .i64 0, .int .i64 0, .string ⟨#[]⟩, .string ⟨#[]⟩, .slice none 0 0] 34)
                    have HOZ := Lib.hid (HO.out.below goodE (below1 wq (.cells #[.int .i64 0, .int .i64 0, .int .i64 0, .int .i64 0, .string ⟨#[]⟩, .string ⟨#[]⟩, .slice none 0 0] 34)))
                    have hZp : wq.heap.size ≠ p := by have := ha.st.ps.lt; omega
                    go_region_law (first | (refine step_push3 goodE (by rfl) (.tmp 87) (.tmp 91) 32 (by rfl) base3 34 i2' _ 88 Tryz.underlying32 hi2' hx0 hx1 hx2 (by rfl) (by omega) (by omega) (.slice A8 ch.length c8') ch (by rfl) (HO8.out.below goodE (below1 w8 _)) w8.heap.size 1 [.int .i64 0, .int .i64 0, .int .i64 0, .int .i64 0, .string ⟨#[]⟩, .string ⟨#[]⟩, .slice none 0 0] E.zero (by rfl) (Blk.new w8 _ _) (leafR _ _ _ _) (by omega) (by (try simp); omega) ?_; intro gg cap w9 hO9 hg9 hgg; have hS9 := (hS8.alloc _).push hg9 (fun e => by have := (HO.out.blk _ e).1; omega); have hP9 := (hP8.alloc _).push hg9 (fun e => by have := (HO.out.blk _ e).1; omega); have ha9 := (ha8.alloc _).push hg9 (fun g e => by have := (HO.out.blk _ e).1; omega); have y91 := hS9.cell (u := .slice A8 ch.length c8') 43 rfl; have z91 := hS9.free 43; have hgl : (ch.length : Int) < (ch.length : Int) + 1 := (by omega); have hgs1 := grp_far HO.out hbs (by (try simp); omega) hgg; have hgp1 := grp_far HO.out hbp (by (try simp); omega) hgg; have hbgg : base3 ≤ gg := (by (rcases hgg with e | e; exact (HO.out.blk _ e).1; (simp at e; omega))); have HF9 := Lib.hid ((HF8.out.below (below1 w8 _) (by omega)).push hg9 (by simp; omega) (fun g e => .inl (HO.out.blk _ e).1)); have hggs := Nat.ne_of_lt hgs1; have hrf9 := grp_rep goodE HO.out hbase (Nat.le_refl _) (goodE.below hrf (below1 w8 _)) hg9 hgg; have hsgg := Ne.symm hggs; have h98 : wq.heap.size ≤ w9.heap.size := Nat.le_trans (by (try simp); omega) hg9.size; obtain ⟨⟨u0, k0⟩, e0⟩ := hO9.last0; obtain ⟨⟨u1, k1⟩, e1⟩ := hO9.lastCell 1 (by omega); obtain ⟨⟨u2, k2⟩, e2⟩ := hO9.lastCell 2 (by omega); obtain ⟨⟨u3, k3⟩, e3⟩ := hO9.lastCell 3 (by omega); obtain ⟨⟨u4, k4⟩, e4⟩ := hO9.lastCell 4 (by omega); obtain ⟨⟨u5, k5⟩, e5⟩ := hO9.lastCell 5 (by omega); obtain ⟨⟨u6, k6⟩, e6⟩ := hO9.lastCell 6 (by omega)) | (refine step_push3 goodE (by rfl) (.tmp 87) (.tmp 91) 32 (by rfl) base3 34 i2' _ 88 Tryz.underlying32 hi2' hx0 hx1 hx2 (by rfl) (by omega) (by omega) (.slice A8 ch.length c8') ch (by rfl) HO8.out wq.heap.size 1 [.int .i64 0, .int .i64 0, .int .i64 0, .int .i64 0, .string ⟨#[]⟩, .string ⟨#[]⟩, .slice none 0 0] E.zero (by rfl) hZ8 (leafR _ _ _ _) (by omega) (by (try simp); omega) ?_; intro gg cap w9 hO9 hg9 hgg; have hS9 := hS8.push hg9 (fun e => by have := (HO.out.blk _ e).1; omega); have hP9 := hP8.push hg9 (fun e => by have := (HO.out.blk _ e).1; omega); have ha9 := ha8.push hg9 (fun g e => by have := (HO.out.blk _ e).1; omega); have y91 := hS9.cell (u := .slice A8 ch.length c8') 43 rfl; have z91 := hS9.free 43; have hgl : (ch.length : Int) < (ch.length : Int) + 1 := (by omega); have hgs1 := grp_far HO.out hbs (by (try simp); omega) hgg; have hgp1 := grp_far HO.out hbp (by (try simp); omega) hgg; have hbgg : base3 ≤ gg := (by (rcases hgg with e | e; exact (HO.out.blk _ e).1; omega)); have HF9 := Lib.hid (HF8.out.push hg9 (by omega) (fun g e => .inl (HO.out.blk _ e).1)); have hggs := Nat.ne_of_lt hgs1; have hrf9 := grp_rep goodE HO.out hbase (by simp) hrf hg9 hgg; have hsgg := Ne.symm hggs; have h98 : wq.heap.size ≤ w9.heap.size := Nat.le_trans (by (try simp); omega) hg9.size; obtain ⟨⟨u0, k0⟩, e0⟩ := hO9.last0; obtain ⟨⟨u1, k1⟩, e1⟩ := hO9.lastCell 1 (by omega); obtain ⟨⟨u2, k2⟩, e2⟩ := hO9.lastCell 2 (by omega); obtain ⟨⟨u3, k3⟩, e3⟩ := hO9.lastCell 3 (by omega); obtain ⟨⟨u4, k4⟩, e4⟩ := hO9.lastCell 4 (by omega); obtain ⟨⟨u5, k5⟩, e5⟩ := hO9.lastCell 5 (by omega); obtain ⟨⟨u6, k6⟩, e6⟩ := hO9.lastCell 6 (by omega)) | (go_simp; go_at_call 22; refine at_call (expr_call m p v T n _ _ _ (ha.drewN 1).st (by omega)) (ha.drewN 1) HR (fun f2 q d8 val w8 HR8 hv ha8 hij8 hg8 => ?_) (fun j c w' hr hg => ⟨rfl, SPost.failed hr.out hg⟩); obtain ⟨fs, rfl, hrf⟩ := hv; obtain ⟨c0, c1, c2, c3, c4, c5, C, c6, c7, rfl⟩ := erep_lit hrf; have hS8 := (hS.drewN 1).grown hg8 hgsp; have hP8 := (hP.drewN 1).grown hg8 hgpp; have HO8 := Lib.hid ((HO.out.below goodE (belowD _ 1)).grown goodE hg8 (by have := ha.hp; omega)); have y1 := hS8.cell (u := .slice A8 ch.length c8') 43 rfl; have z1' := hS8.free 43; have l9 : gs < w8.heap.size := hS8.lt; have h78 : wq.heap.size ≤ w8.heap.size := hg8.size; have HF8 := Lib.hid ((HF0.out.below (belowD wq 1) hbase).push hg8 hbase (fun g e => by cases e; exact .inr (.inr rfl)))) | (go_simp; go_at_call 22; refine at_call (expr_call m p v T n _ _ _ (haZ.drewN 1).st (by omega)) (haZ.drewN 1) HR (fun f2 q d8 val w8 HR8 hv ha8 hij8 hg8 => ?_) (fun j c w' hr hg => ⟨rfl, SPost.failed hr.out hg⟩); obtain ⟨fs, rfl, hrf⟩ := hv; obtain ⟨c0, c1, c2, c3, c4, c5, C, c6, c7, rfl⟩ := erep_lit hrf; have hS8 := (hSZ.drewN 1).grown hg8 hgsp; have hP8 := (hPZ.drewN 1).grown hg8 hgpp; have HO8 := Lib.hid ((HOZ.out.below goodE (belowD _ 1)).grown goodE hg8 (by have := ha.hp; omega)); have y1 := hS8.cell (u := .slice A8 ch.length c8') 43 rfl; have z1' := hS8.free 43; have l9 : gs < w8.heap.size := hS8.lt; have h78 : wq.heap.size ≤ w8.heap.size := Nat.le_trans (by simp) hg8.size; have hZ8 := (hZ.drewN 1).grown hg8 hZp; have HF8 := Lib.hid (((HF0.out.below (below1 wq _) hbase).below (belowD _ 1) (by simp; omega)).push hg8 (by simp; omega) (fun g e => by cases e; exact .inr (.inr rfl)))))
                    all_goals
                      have hfin := appG_world (t := 57) (t2 := 47) (k := 43) (pre := ckPre { stm0 mo va with kind := 5 }) (post := ckPost { stm0 mo va with kind := 5 }) rfl h0 hbs hgpgs ha9 hP9 hS9 hO9 hrf9 hgs1 hgp1 (by omega) hbgg HF9.out
                      obtain ⟨v1, hA1⟩ := HKQ.out.ofApp hfin.1.2 hfin.1.1 hij8
                      obtain ⟨v2, hA2⟩ := HKQ.out.ofApp hfin.2.2 hfin.2.1 hij8
                      have HA1 := Lib.hid hA1
                      have HA2 := Lib.hid hA2
                      clear hfin hA1 hA2
                      go_wp2_with fail
                      go_meet
                      first | with_reducible exact ⟨f2, v1, q, d8, HA1.out, hij8, HR8.out⟩ | with_reducible exact ⟨f2, v2, q, d8, HA2.out, hij8, HR8.out⟩
                  case rest =>
                    obtain ⟨e, vh', jg, dg, hKg, hjg, hr⟩ := hcut
                    have HR := Lib.hid hr
                    clear hKq hr
                    go_wp2_with fail
                    refine at_need hKg.si.at_ _ [41] rfl HR (fun wr' HR ha hgr => ?_) (fun j c w' hr hg => ⟨rfl, SPost.failed hr.out hg⟩)
                    have hKh := hKg.call ha (by omega) hgr
                    have hleh := ha.st.le
                    clear hKg ha hgr
                    go_wp2_with fail
                    go_roundg (T.length - (jg + 1))
                    case measure => omega
                    case rel => exact ⟨jg + 1, dg, ch ++ [e], vh', k, ⟨by omega, hKh, by omega, by simp; omega, HR.out⟩⟩
                · have hK1 := hKf.call ha (Nat.le_refl _) hgg
                  clear hKf ha hgg
                  have HR : Hid ((pNeed [41] >>= fun _ => (pure { stm0 mo va with kind := 5, table := ⟨s, cols, key, l⟩, checks := ch } : P Stm)) (cores T) jf df = r) := HR
                  go_wp2_with fail
                  refine at_need hK1.si.at_ _ [41] rfl HR (fun wh HR ha hgh => ?_) (fun j c w' hr hg => ⟨rfl, SPost.failed hr.out hg⟩)
                  have hK2 := hK1.call ha (by omega) hgh
                  clear hK1 ha hgh
                  have q0 := hK2.tbl.cell 0 rfl
                  have q1 := hK2.tbl.cell 1 rfl
                  have q2 := hK2.tbl.cell 2 rfl
                  have q3 := hK2.tbl.cell 3 rfl
                  have q4 := hK2.tbl.cell 4 rfl
                  have HTB := Lib.hid hK2.tab
                  have HCH := Lib.hid (hK2.own.done goodE)
                  have hfar := hK2.far
                  have hgx0 := hK2.gx0
                  have hsz := hK2.si.sz
                  have hgb := hK2.si.gsb
                  have hbw : w.heap.size ≤ base3 := by have := hK2.gxb; omega
                  go_wp2_with (refine store_part rfl 47 (.tmp 103) (.tmp 101) rfl gs 38 (tcs s (.slice C0 cols.length C2) (.slice K0 key.length K2) (.slice V0 l.length V2)) rfl rfl 57 (stPre { stm0 mo va with kind := 5 } ++ (.slice none 0 0 :: (.slice none 0 0 :: (.bool false :: zeroE7)))) (tblCells Tbl.zero (.slice none 0 0) (.slice none 0 0) (.slice none 0 0)) (vh :: ckPost { stm0 mo va with kind := 5 }) hK2.si.st rfl rfl (by kernel_rfl) (by intro u hu; simp at hu; rcases hu with e | e | e | e | e <;> rw [e] <;> rfl) ?_)
                  intro wi hXi hgi hzi
                  have hSi := hK2.si.put hgi hXi
                  have HTi := Lib.hid (HTB.out.kept (w' := wi) fun b hb hl => hgi.block b hl (fun e => by injection e with e; have := hb.1.1; omega))
                  have HCi := Lib.hid (HCH.out.kept goodE (w' := wi) fun b hb hl => hgi.block b hl (fun e => by injection e with e; omega))
                  clear q0 q1 q2 q3 q4 hgi hXi hzi HTB HCH hK2
                  go_wp2_with fail
                  go_end0
                  exact SPost.mkOk HR.out.symm hSi.at_ hSi.ij ⟨rfl, ⟨_, hSi.st, stm_create (HTi.out.mono fun b hb _ => ⟨hb.1.1, by simp⟩) (HCi.out.mono goodE fun b hb _ => ⟨by omega, by simp⟩)⟩, hSi.fr, hSi.sz⟩
            · have HR3 : Hid ((pWords [[75, 69, 89]] >>= fun _ => pColumns m cols >>= fun c => pWords [[82, 69, 70, 69, 82, 69, 78, 67, 69, 83]] >>= fun _ => pName >>= fun s' => pFrnsGo m cols k (l ++ [⟨c, s'⟩]) >>= (fun frns => pCreT m (stm0 mo va) s cols key frns)) (cores T) (je + 2) de = r) := Lib.hid (by have h := HR2.out; rw [hb] at h; simp only [if_true] at h; exact h)
              have ha2' : a2 = true := by cases a1 <;> cases a2 <;> simp_all
              have hlt2 := aheadC_lt (ha2.trans ha2')
              rw [cores_len] at hlt2
              clear HR2 hb ha1 ha2 ha2'
              have c1 := hF3.si.at_.st.ps.c1
              have f1 := hF3.si.at_.st.ps.free 1
              have e2 : IntKind.i64.wrap ((je : Int) + 2) = (je : Int) + 2 := by rw [IntWalk.i64_in _ (by omega)]
              go_upto_region 13 with (fail)
              refine name_step2 (K := Code.wp _ _ _ _) hF3.si.at_ (by omega) fun w4 ha4 hg4 => ?_
              have hF4 := hF3.call ha4 (by omega) hg4
              clear hF3 c1 f1 e2 ha4 hg4
              go_wp2_with fail
              refine name_alloc (K := fun W => Calls _ _ _ W _) fun w5 hW hw5 hz5 => ?_
              have hle5 := hF4.si.at_.le
              replace hF4 := hF4.below hw5
              clear hw5 hz5
              refine at_words1 hF4.si.at_ hW (by omega) [75, 69, 89] rfl HR3 (fun w6 HR6 ha6 hg6 => ?_) (fun j c w' hr hg => ⟨rfl, SPost.failed hr.out hg⟩)
              have hF6 := hF4.call ha6 (by omega) hg6
              have hle6 := ha6.st.le
              clear hW ha6 hg6 hle5 hF4 HR3
              obtain ⟨V0, V2, hvf⟩ := hF6.own.form
              subst hvf
              have q0 := hF6.tbl.cell 0 rfl
              have q1 := hF6.tbl.cell 1 rfl
              have q2 := hF6.tbl.cell 2 rfl
              have q3 := hF6.tbl.cell 3 rfl
              have q4 := hF6.tbl.cell 4 rfl
              go_wp2_with fail
              have hp6 := hF6.si.at_.hp
              have hl6 := hF6.si.le0
              have hgx6 := hF6.gx0
              have hgb6 := hF6.gxb
              have hb6 := hF6.le
              have hs6 := hF6.si.sz
              refine at_call (columns_call m p v T _ n _ w6 hF6.si.at_.st (by omega) cols (fun b => (Fp w.heap.size [gx] b ∧ b < base2) ∧ b < w6.heap.size) s C0 K0 V0 C2 key.length K2 l.length V2 (hF6.cols_.mono goodCol fun b hb hl => ⟨hb, hl⟩) (fun b hb => ⟨hb.2, by have := hb.1.1.1; omega⟩) (by omega)) hF6.si.at_ HR6 (fun fc j7 d7 val w7 HR7 hv ha7 hij7 hg7 => ?_) (fun j c w' hr hg => ⟨rfl, SPost.failed hr.out hg⟩)
              have HFC := Lib.hid (LRep.mono goodInt hv (F' := fun b => w6.heap.size ≤ b ∧ b < w7.heap.size) fun b hb hl => ⟨hb.1, hl⟩)
              obtain ⟨X0, X2, hvx⟩ := LRep.form hv
              subst hvx
              have hga := hg7
              have hF7 := hF6.call ha7 hij7 hg7
              have h67 := hg7.size
              clear hv q0 q1 q2 q3 q4 hg7 HR6
              go_wp2_with fail
              refine name_alloc2 (K := fun W => Calls _ _ _ W _) fun w8 hY hW hw8 hz8 => ?_
              have hle7 := hF7.si.at_.le
              have ha8 := hF7.si.at_.below hw8
              replace hga := grown_below hga hw8
              replace HFC := Lib.hid (HFC.out.kept goodInt fun b _ hl => hw8.block b hl)
              have hYp : w7.heap.size ≠ p := by have := ha8.hp; omega
              have h78 : w7.heap.size + 1 + 1 ≤ w8.heap.size := by omega
              clear hw8 hz8 hF7 ha7
              refine at_words1 ha8 hW (by omega) [82, 69, 70, 69, 82, 69, 78, 67, 69, 83] rfl HR7 (fun w9 HR9 ha9 hg9 => ?_) (fun j c w' hr hg => ⟨rfl, SPost.failed hr.out hg⟩)
              replace hga := grown_trans hga hg9
              replace hY := hY.grown hg9 hYp
              replace HFC := Lib.hid (HFC.out.kept goodInt fun b hb hl => hg9.block b hl (fun e => by injection e with e; omega))
              have h89 := hg9.size
              clear hW hg9 ha8 HR7
              go_wp2_with fail
              refine at_call (name_call p v T _ n _ w9 ha9.st) ha9 HR9 (fun fs j10 d10 val w10 HR10 hv ha10 hij10 hg10 => ?_) (fun j c w' hr hg => ⟨rfl, SPost.failed hr.out hg⟩)
              obtain ⟨rfl, hsl⟩ := hv
              unfold strV
              replace hga := grown_trans hga hg10
              replace hY := hY.grown hg10 hYp
              replace HFC := Lib.hid (HFC.out.kept goodInt fun b hb hl => hg10.block b hl (fun e => by injection e with e; omega))
              have h910 := hg10.size
              clear hg10 ha9 HR9 hsl
              have y1 := hY.cell 1 rfl
              have zy1 := hY.free 1
              go_upto_region 17 with (fail)
              have hk := only_setCell (World.grownBy.refl w10 (some w7.heap.size)) 1 (.string ⟨fs.toArray⟩)
              replace hga := grown_new hga hk (by omega)
              have hY11 := hY.set 1 (.string ⟨fs.toArray⟩)
              have ha11 := ha10.set (g := w7.heap.size) (by omega) 1 (.string ⟨fs.toArray⟩)
              replace HFC := Lib.hid (HFC.out.kept goodInt fun b hb hl => hk.block b hl (fun e => by injection e with e; omega))
              have hz11 : w10.heap.size ≤ (w10.setCell ⟨w7.heap.size, 1, none⟩ (.string ⟨fs.toArray⟩)).heap.size := by simp [World.setCell]
              clear hk y1 zy1 hY ha10
              generalize w10.setCell ⟨w7.heap.size, 1, none⟩ (.string ⟨fs.toArray⟩) = w11 at hga hY11 ha11 HFC hz11 ⊢
              have hF11 := hF6.call ha11 (by omega) hga
              have u0 := hY11.cell 0 rfl
              have u1 := hY11.cell 1 rfl
              have t3 := hF11.tbl.cell 3 rfl
              have HLT : Hid (∀ g, (Value.slice V0 l.length V2).ownBlock = some g → base2 ≤ g ∧ g < w6.heap.size) := Lib.hid (fun g e => hF6.own.blk g e)
              go_wp2_with (at_builtin; refine push_own goodFrn rfl (.tmp 72) (.tmp 74) 45 rfl base2 111 i1' _ 40 Tryz.underlying45 hi1' hy0 hy1 hy2 rfl (by omega) (by omega) (.slice V0 l.length V2) l rfl (hF11.own.below goodFrn (below1 w11 _)) w11.heap.size 1 [.slice X0 fc.length X2, .string ⟨fs.toArray⟩] ⟨fc, fs⟩ rfl (Blk.new w11 _ _) ?hr ?hl ?hb ?_)
              case hr => exact goodFrn.below ⟨_, HFC.out.mono goodInt fun q hq hl => ⟨by omega, fun h => by have := (HLT.out q h).2; have := hq.1; omega⟩, rfl⟩ (below1 w11 _)
              case hl => omega
              case hb => simp; omega
              intro gg cap w12 hO12 hg12 hat12
              have HF12 := Lib.hid (hF11.push (c := ⟨fc, fs⟩) (.cells #[.slice X0 fc.length X2, .string ⟨fs.toArray⟩] 111) hg12 hO12)
              have hX12 := (hF11.tbl.alloc (.cells #[.slice X0 fc.length X2, .string ⟨fs.toArray⟩] 111)).push hg12 (fun e => by have := (HLT.out _ e).1; omega)
              have x3 := hX12.cell 3 rfl
              have z3 := hX12.free 3
              have hle11 := ha11.st.le
              clear u0 u1 t3 hO12 hg12 hat12 hF11 hF6 HFC hY11
              go_wp2_with fail
              go_roundg (T.length - j10)
              case measure => omega
              case rel => exact ⟨j10, d10, l ++ [⟨fc, fs⟩], _, k, ⟨by omega, HF12.out, by omega, by simp; omega, HR10.out⟩⟩
      · have hC9 := hC8.call ha (by omega) hg9
        have hle9 := ha.st.le
        clear hC8 ha hg9
        have HR : Hid ((pColumn >>= fun c => pNeed [44] >>= fun _ => pColsGo k (cols ++ [c]) >>= fun cols => pCreK m (stm0 mo va) s cols) (cores T) j8 d8 = r) := HR
        obtain ⟨A8, c8', hvv⟩ := hC9.own.form
        subst hvv
        go_upto_region 7 with (fail)
        go_cut [] (fun wx => ∃ c vc j d, CrI w0 w p v T i n gs gx base (stmZ { stm0 mo va with kind := 5 }) s (cols ++ [c]) vc j d wx ∧ j8 ≤ j ∧ (pNeed [44] >>= fun _ => pColsGo k (cols ++ [c]) >>= fun cols => pCreK m (stm0 mo va) s cols) (cores T) j d = r)
        case first =>
          have y1 := hC9.tbl.cell 1 rfl
          have z1 := hC9.tbl.free 1
          have HC := Lib.hid hC9
          have hxb := hC9.gxb
          have hbl := hC9.le
          have hgx0 := hC9.gx0
          have hfar := hC9.far
          go_region_law (first | (refine step_push goodCol (by rfl) (.tmp 30) (.tmp 33) 43 (by rfl) base 49 i0' _ 32 Tryz.underlying43 hi0' hz0 hz1 hz2 (by rfl) (by omega) (by omega) (.slice A8 cols.length c8') cols (by rfl) (HC8.out.own.below goodCol (below1 w8 _)) w8.heap.size 1 [.string ⟨c.name.toArray⟩, .int .i64 (c.kind : Int), .bool c.nullable] c (by rfl) (Blk.new w8 _ _) rfl (by omega) (by simp; omega) ?_; intro gg cap wz hO9 hgz; have hX9 := (HC8.out.tbl.alloc _).push hgz (fun e => by have := (HC.out.own.blk _ e).1; omega); have y91 := hX9.cell 1 rfl; have z91 := hX9.free 1) | (go_simp; go_at_call 85; refine at_call (column_call p v T _ n _ _ (HC.out.below (belowD w9 1)).si.at_.st) (HC.out.below (belowD w9 1)).si.at_ HR (fun c j9 d9 val w8 HR8 hv ha8 hij9 hg8 => ?_) (fun j c w' hr hg => ⟨rfl, SPost.failed hr.out hg⟩); obtain rfl := hv; unfold colCells natV strV; have HC8 := Lib.hid ((HC.out.below (belowD w9 1)).call ha8 hij9 hg8); have y81 := HC8.out.tbl.cell 1 rfl; have z81 := HC8.out.tbl.free 1; have l81 := HC8.out.tbl.lt; have h68 : w9.heap.size ≤ w8.heap.size := hg8.size))
          all_goals
            have HC9 := Lib.hid (HC8.out.push (c := c) _ hgz hO9)
            go_wp2_with fail
            go_meet
            exact ⟨c, _, j9, d9, HC9.out, hij9, HR8.out⟩
        case rest =>
          obtain ⟨c', vc', j9, d9, hCn, hj9, hr⟩ := hcut
          have HR := Lib.hid hr
          clear hC9 hr
          go_wp2_with fail
          refine at_need hCn.si.at_ _ [44] rfl HR (fun wn HR ha hgn => ?_) (fun j c w' hr hg => ⟨rfl, SPost.failed hr.out hg⟩)
          have hCm := hCn.call ha (by omega) hgn
          have hlem := ha.st.le
          clear hCn ha hgn
          go_wp2_with fail
          go_roundg (T.length - (j9 + 1))
          case measure => omega
          case rel => exact ⟨j9 + 1, d9, cols ++ [c'], vc', k, ⟨by omega, hCm, by omega, by simp; omega, HR.out⟩⟩
end Go.Proofs.YtpmncgbpbcgfaaaGreatDoor
