import Derived.Test.YtpmncgbpbcgfaaaGreatDoorSxC
import Derived.Deep.RegionLaw
import Derived.Deep.DeepCutAuto
import Derived.Test.YtpmncgbpbcgfaaaGreatDoorSxCompare
/-
  Arguments in parentheses.
-/
namespace Go.Proofs.YtpmncgbpbcgfaaaGreatDoor
open Go.RowKit
set_option linter.unusedVariables false
set_option linter.unusedSimpArgs false

section
variable {α : Type} {size : Nat} {rep : Rep α} {P : Program} {ops : Array Oper} {o : Oper} {a : Act} {w : World} {K : Act → World → Prop} {Q : Exit → Act → World → Prop} {E' : Prop}
/-- append of one element, at a step of a region that draws its order -/
theorem step_push (G : Good rep size) (hgd : o.guard = none) (s x : Operand) (t : TypeId) (ho : o.op = .call { callee := .builtin .append, args := #[s, x], argTypes := #[t, t] })
    (base : Nat) (e : TypeId) (i : TypeInfo) (z : Value) (bytes : Nat) (ht : P.underlying t = some (.slice e)) (hi : P.info? e = some i) (hz : i.zero = some z)
    (hsize : i.size = size) (hby : i.bytes = bytes) (hzs : z.cells.size = size) (hsz : 0 < size) (hbs : bytes ≤ 10000)
    (v : Value) (l : List α) (hs : a.eval s = v) (hown : OwnL size e rep w base l v) (g c : Nat) (cs : List Value) (b : α) (hx : a.eval x = .slice (some ⟨g, 0, none⟩) 1 c) (hb : Blk w g cs e)
    (hr : rep w (fun q => base ≤ q ∧ v.ownBlock ≠ some q) b cs) (hlen : l.length ≤ 100000) (hbase : base ≤ w.heap.size)
    (h : ∀ gg cap w', OwnL size e rep w' base (l ++ [b]) (.slice (some ⟨gg, 0, none⟩) (l.length + 1) cap) → w.grownBy w' v.ownBlock → K (a.put o.dst (.slice (some ⟨gg, 0, none⟩) (l.length + 1) cap)) w') : if Region.wanted o (yielded ops a.tmps) = true then Oper.wp P o a w K Q else E' := by
  obtain ⟨xs, hown, hreps⟩ := hown
  have hcl := G.len hr
  refine step_append_lies w hgd s x t ho base e i z size bytes ht hi hz hsize hby hzs hsz v l.length xs hs hown ⟨g, 0, none⟩ 1 c cs hx (by simp [hcl]) (fun j u hj => ?_) (G.one hr) (by omega) (by unfold maxLen; omega) ?_ hbase _ rfl ?_
  · rw [Addr.add_mid]
    exact hb.cell _ (by simpa using hj)
  · have : (l.length + 1) * bytes ≤ 100001 * 10000 := Nat.mul_le_mul (by omega) hbs
    omega
  · intro gg cap w' h1 h2 h3 h4
    refine h gg cap w' (OwnL.push G hown hreps hr h1 h2 ?_) h2
    rcases h3 with h3 | h3
    · left; rw [h3]; rfl
    · right; rw [h3]; rfl
end
/-- the disjunction's contract, as a hypothesis, from token lo on -/
def OrAt (x : P E) (p : Nat) (v : Value) (T : List Tok) (n lo : Nat) : Prop :=
  ∀ w i d, lo ≤ i → St w p v T i n d → Calls Tryz.prog 41 #[.pointer (some ⟨p, 0, none⟩)] w (PPost w p v T i n (exprR w.heap.size) (x (cores T) i d))
structure CallInv (w0 : World) (p : Nat) (v : Value) (T : List Tok) (i n op k : Nat) (x : P E) (r : R E) (j : Nat) (d : Bool) (m : Nat) (l : List E) (vA : Value) (wr : World) : Prop where
  ij : i ≤ j
  at_ : At w0 wr p v T j n d
  blk : Blk wr w0.heap.size [.int .i64 0, .int .i64 0, .int .i64 0, .int .i64 0, .string ⟨#[]⟩, .string ⟨#[]⟩, .slice none 0 0] 34
  box : Blk wr (w0.heap.size + 1) [.int .i64 (op : Int), .int .i64 0, .int .i64 0, .int .i64 0, .string ⟨#[]⟩, .string ⟨#[]⟩, vA] 34
  own : OwnL 7 34 ERep wr (w0.heap.size + 1 + 1) l vA
  len : l.length ≤ j + 1
  base : w0.heap.size + 1 + 1 ≤ wr.heap.size
  fuel : T.length + 1 ≤ m + j
  pr : (pArgs x k m l.length l >>= fun l => pNeed [41] >>= fun _ => (pure (E.node op l) : P E)) (cores T) j d = r
theorem args_step {β : Type} {x : P E} {k m q : Nat} {l : List E} {f : List E → P β} {C : List Core} {j : Nat} {d : Bool} {r : R β} (hr : (pArgs x k (m + 1) q l >>= f) C j d = r) :
    (if (decide (q < k) || (decide (k = 0) && aheadB C j 0 5 [44])) = true then (pNeed [44] >>= fun _ => x >>= fun e => pArgs x k m (q + 1) (l ++ [e]) >>= f) else f l) C j d = r := by
  rw [pArgs] at hr
  simp only [P_assoc, P_ite, P_pure] at hr
  exact hr
structure CallRel (w0 : World) (p : Nat) (v : Value) (T : List Tok) (i n op k : Nat) (x : P E) (r : R E) (gk j : Nat) (d : Bool) (m : Nat) (l : List E) (vA c8 : Value) (wr : World) : Prop where
  gk : gk + j = T.length
  c8 : c8 = .int .i64 (l.length : Int)
  inv : CallInv w0 p v T i n op k x r j d m l vA wr
set_option maxHeartbeats 8000000 in
set_option maxRecDepth 100000 in
theorem call_call (x : P E) (p : Nat) (v : Value) (T : List Tok) (i0 n : Nat) (hor : OrAt x p v T n i0)
    (w : World) (i : Nat) (d : Bool) (hi0 : i0 ≤ i + 1) (h : St w p v T i n d) (op k m : Nat) (hm : T.length + 1 ≤ m + i) (hk : k ≤ 1000) :
    Calls Tryz.prog 165 #[.pointer (some ⟨p, 0, none⟩), .int .i64 (op : Int), .int .i64 (k : Int)] w (PPost w p v T i n (exprR w.heap.size) (pCall m x op k (cores T) i d)) := by
  obtain ⟨r, hr⟩ : ∃ r, pCall m x op k (cores T) i d = r := ⟨_, rfl⟩
  rw [hr]
  unfold pCall at hr
  have HR := Lib.hid hr
  have HO := Lib.hid hor
  have ha := At.start h
  clear hr hor h
  obtain ⟨i0', hi0', hz0, hz1, hz2⟩ := info_parts info_expr
  go_enter Tryz.func165, Tryz.ntmps165
  go_wp2_with fail
  refine name_alloc2 (K := fun W => Calls _ _ _ W _) fun w1 hB hX hw1 hz1' => ?_
  replace ha := ha.below hw1
  have hBp : w.heap.size ≠ p := by have := ha.hp; omega
  have hXp : w.heap.size + 1 ≠ p := by have := ha.hp; omega
  clear hw1
  refine at_need ha _ [40] rfl HR (fun w2 HR ha hg2 => ?_) (fun j c w' hr hg => ⟨rfl, PPost.failed hr.out hg⟩)
  replace hB := hB.grown hg2 hBp
  replace hX := hX.grown hg2 hXp
  have h12 := hg2.size
  clear hg2
  have r6 := hX.cell 6 rfl
  go_wp2_with fail
  go_cut [] (fun wx => ∃ j d3 f1 vA, CallInv w p v T i n op k x r j d3 m [f1] vA wx)
  case first =>
    go_region_law (first | (refine step_push goodE (by rfl) (.tmp 14) (.tmp 17) 32 (by rfl) (w.heap.size + 1 + 1) 34 i0' _ 88 Tryz.underlying32 hi0' hz0 hz1 hz2 (by rfl) (by omega) (by omega) (.slice none 0 0) [] (by rfl) (OwnL.nil _ _) w3.heap.size 1 [.int .i64 c0, .int .i64 c1, .int .i64 c2, .int .i64 c3, .string c4, .string c5, .slice C c6 c7] f1 (by rfl) (Blk.new w3 _ _) (goodE.below (goodE.mono hrf fun q hq hl => ⟨by have := hq.1; have hq2 : w2.heap.size ≤ q := hq.1; omega, by simp [Value.ownBlock]⟩) (below1 w3 _)) (by simp) (by simp; omega) ?_; intro gg cap w4 hO4 hg4; have hX4 := (hX3.alloc _).push hg4 (by simp [Value.ownBlock]); have y46 := hX4.cell 6 rfl; have z46 := hX4.free 6) | (go_simp; go_at_call 41; refine at_call (HO.out _ _ d (by omega) (ha.drewN 1).st) (ha.drewN 1) HR (fun f1 q d3 val w3 HR3 hv ha3 hij3 hg3 => ?_) (fun j c w' hr hg => ⟨rfl, PPost.failed hr.out hg⟩); obtain ⟨fs, rfl, hrf⟩ := hv; obtain ⟨c0, c1, c2, c3, c4, c5, C, c6, c7, rfl⟩ := erep_lit hrf; have hX3 := (hX.drewN 1).grown hg3 hXp; have y6 := hX3.cell 6 rfl; have z6 := hX3.free 6; have l9 : w.heap.size + 1 < w3.heap.size := hX3.lt))
    all_goals
      have ha4 := ((ha3.alloc (.cells #[.int .i64 c0, .int .i64 c1, .int .i64 c2, .int .i64 c3, .string c4, .string c5, .slice C c6 c7] 34)).push hg4 (by simp [Value.ownBlock])).set (show w.heap.size ≤ w.heap.size + 1 by omega) 6 (.slice (some ⟨gg, 0, none⟩) 1 cap)
      have hB4 := ((((hB.drewN 1).grown hg3 hBp).alloc (.cells #[.int .i64 c0, .int .i64 c1, .int .i64 c2, .int .i64 c3, .string c4, .string c5, .slice C c6 c7] 34)).push hg4 (by simp [Value.ownBlock])).grown (only_setCell (World.grownBy.refl _ _) 6 (.slice (some ⟨gg, 0, none⟩) 1 cap)) (show w.heap.size ≠ w.heap.size + 1 by omega)
      have hX5 := hX4.set 6 (.slice (some ⟨gg, 0, none⟩) 1 cap)
      have hO5 := hO4.far goodE (only_setCell (World.grownBy.refl w4 _) 6 (.slice (some ⟨gg, 0, none⟩) 1 cap)) (show w.heap.size + 1 < w.heap.size + 1 + 1 by omega)
      have hz4 := hg4.size
      have hHR : Hid ((pArgs x k m 1 [f1] >>= fun l => pNeed [41] >>= fun _ => (pure (E.node op l) : P E)) (cores T) q d3 = r) := HR3
      go_wp2_with fail
      go_meet
      exact ⟨q, d3, f1, _, ⟨by omega, ha4, hB4, hX5, by simpa using hO5, by simp, by simp [World.setCell] at hz4 ⊢; omega, by omega, hHR.out⟩⟩
  case rest =>
    obtain ⟨j, d3, f1, vA, hinv⟩ := hcut
    clear hX hB ha r6 HR
    go_wp2_with fail
    go_loopg [8] (T.length - j) (fun gk c8 wr => ∃ j d m l vA, CallRel w p v T i n op k x r gk j d m l vA c8 wr)
    case atStart => exact ⟨j, d3, m, [f1], vA, ⟨by have := hinv.at_.st.le; omega, rfl, hinv⟩⟩
    case round =>
      obtain ⟨jj, dj, mk, l, vA', ⟨hgk, rfl, ⟨hij, ha5, hB5, hX5, hO5, hlen, hbase, hfuel, hpr⟩⟩⟩ := hrel
      clear hinv
      have hle5 := ha5.st.le
      have hlT := ha5.st.tk.len
      obtain ⟨mk, rfl⟩ : ∃ q, mk = q + 1 := ⟨mk - 1, by omega⟩
      have HR5 := Lib.hid (args_step hpr)
      obtain ⟨A8, c8', rfl⟩ := hO5.form
      have HOw := Lib.hid hO5
      clear hpr hO5
      have e8 : IntKind.i64.wrap ((l.length : Int) + 1) = (l.length : Int) + 1 := by rw [IntWalk.i64_in _ (by omega)]
      by_cases hlk : l.length < k
      · have d1 : decide (l.length < k) = true := decide_eq_true hlk
        have HR6 : Hid ((pNeed [44] >>= fun _ => x >>= fun e => pArgs x k mk (l.length + 1) (l ++ [e]) >>= fun l => pNeed [41] >>= fun _ => (pure (E.node op l) : P E)) (cores T) jj dj = r) := Lib.hid (by have h := HR5.out; rw [if_pos (by rw [d1]; rfl)] at h; exact h)
        clear HR5 hlk
        have ha6 := ha5
        have hB6 := hB5
        have hX6 := hX5
        have HOw6 := HOw
        clear ha5 hB5 hX5 HOw
        go_wp2_with fail
        refine at_need ha6 _ [44] rfl HR6 (fun w7 HR7 ha7 hg7 => ?_) (fun j c w' hr hg => ⟨rfl, PPost.failed hr.out hg⟩)
        have hB7 := hB6.grown hg7 hBp
        have hX7 := hX6.grown hg7 hXp
        have HO7 := Lib.hid (HOw6.out.grown goodE hg7 (by have := ha7.hp; omega))
        have h67 := hg7.size
        clear hg7 hB6 hX6 HOw6 HR6 ha6
        have r6 := hX7.cell 6 rfl
        go_wp2_with fail
        go_region_law (first | (refine step_push goodE (by rfl) (.tmp 36) (.tmp 39) 32 (by rfl) (w.heap.size + 1 + 1) 34 i0' _ 88 Tryz.underlying32 hi0' hz0 hz1 hz2 (by rfl) (by omega) (by omega) (.slice A8 l.length c8') l (by rfl) (HO8.out.below goodE (below1 w8 _)) w8.heap.size 1 [.int .i64 c0, .int .i64 c1, .int .i64 c2, .int .i64 c3, .string c4, .string c5, .slice C c6 c7] f2 (by rfl) (Blk.new w8 _ _) (goodE.below (goodE.mono hrf fun q hq hl => ⟨by have hq2 : w7.heap.size ≤ q := hq.1; omega, fun e => by have := (HO7.out.blk q e).2; have hq2 : w7.heap.size ≤ q := hq.1; omega⟩) (below1 w8 _)) (by omega) (by simp; omega) ?_; intro gg cap w9 hO9 hg9; have hX9 := (hX8.alloc _).push hg9 (fun e => by have := (HO7.out.blk _ e).1; omega); have y96 := hX9.cell 6 rfl; have z96 := hX9.free 6) | (go_simp; go_at_call 41; refine at_call (HO.out _ _ dj (by omega) (ha7.drewN 1).st) (ha7.drewN 1) HR7 (fun f2 q d8 val w8 HR8 hv ha8 hij8 hg8 => ?_) (fun j c w' hr hg => ⟨rfl, PPost.failed hr.out hg⟩); obtain ⟨fs, rfl, hrf⟩ := hv; obtain ⟨c0, c1, c2, c3, c4, c5, C, c6, c7, rfl⟩ := erep_lit hrf; have hX8 := (hX7.drewN 1).grown hg8 hXp; have HO8 := Lib.hid ((HO7.out.below goodE (belowD w7 1)).grown goodE hg8 (by have := ha7.hp; omega)); have y6 := hX8.cell 6 rfl; have z6 := hX8.free 6; have l9 : w.heap.size + 1 < w8.heap.size := hX8.lt; have h78 : w7.heap.size ≤ w8.heap.size := hg8.size))
        all_goals
          have HLT : Hid (∀ g, (Value.slice A8 l.length c8').ownBlock = some g → w.heap.size + 1 + 1 ≤ g) := Lib.hid (fun g e => (HO7.out.blk g e).1)
          have ha9 := ((ha8.alloc (.cells #[.int .i64 c0, .int .i64 c1, .int .i64 c2, .int .i64 c3, .string c4, .string c5, .slice C c6 c7] 34)).push hg9 (fun g e => by have := HLT.out g e; omega)).set (show w.heap.size ≤ w.heap.size + 1 by omega) 6 (.slice (some ⟨gg, 0, none⟩) (l.length + 1) cap)
          have hB9 := ((((hB7.drewN 1).grown hg8 hBp).alloc (.cells #[.int .i64 c0, .int .i64 c1, .int .i64 c2, .int .i64 c3, .string c4, .string c5, .slice C c6 c7] 34)).push hg9 (fun e => by have := HLT.out _ e; omega)).grown (only_setCell (World.grownBy.refl _ _) 6 (.slice (some ⟨gg, 0, none⟩) (l.length + 1) cap)) (show w.heap.size ≠ w.heap.size + 1 by omega)
          have hX10 := hX9.set 6 (.slice (some ⟨gg, 0, none⟩) (l.length + 1) cap)
          have HO10 := Lib.hid (hO9.far goodE (only_setCell (World.grownBy.refl w9 _) 6 (.slice (some ⟨gg, 0, none⟩) (l.length + 1) cap)) (show w.heap.size + 1 < w.heap.size + 1 + 1 by omega))
          have hz9 : w8.heap.size + 1 ≤ w9.heap.size := by have := hg9.size; simpa using this
          have hs9 : (w9.setCell ⟨w.heap.size + 1, 6, none⟩ (.slice (some ⟨gg, 0, none⟩) (l.length + 1) cap)).heap.size = w9.heap.size := by simp [World.setCell]
          have hle8 := ha8.st.le
          clear hg9 hO9 hX9 y96 z96 y6 z6 l9 hX8 HO8 hrf ha8 hg8 HO7 hB7 hX7 r6 ha7 HR7
          generalize w9.setCell ⟨w.heap.size + 1, 6, none⟩ (.slice (some ⟨gg, 0, none⟩) (l.length + 1) cap) = w10 at ha9 hB9 hX10 HO10 hs9 ⊢
          go_wp2_with fail
          go_roundg (T.length - q)
          case measure => omega
          case rel => exact ⟨q, d8, mk, l ++ [f2], _, ⟨by omega, by simp, ⟨by omega, ha9, hB9, hX10, HO10.out, by simp; omega, by omega, by omega, by simpa using HR8.out⟩⟩⟩
      · have d1 : decide (l.length < k) = false := decide_eq_false hlk
        by_cases hk0 : k = 0
        · have d2 : ((k : Int) == 0) = true := by rw [beq_iff_eq]; omega
          have HK : Hid (k = 0) := Lib.hid hk0
          have hnl : ¬ l.length < k := hlk
          clear hlk hk0
          go_wp2_with fail
          refine ahead_use ha5.st 0 5 (by omega) _ [44] rfl (fun w6 hx hs6 hg6 => ?_) (fun w6 hx hs6 hg6 => ?_)
          · have ha6 := ha5.call hg6 hs6
            have hB6 := hB5.grown hg6 hBp
            have hX6 := hX5.grown hg6 hXp
            have HOw6 := Lib.hid (HOw.out.grown goodE hg6 (by have := ha6.hp; omega))
            have h56 := hg6.size
            have HR6 : Hid ((pNeed [44] >>= fun _ => x >>= fun e => pArgs x k mk (l.length + 1) (l ++ [e]) >>= fun l => pNeed [41] >>= fun _ => (pure (E.node op l) : P E)) (cores T) jj dj = r) := Lib.hid (by have h := HR5.out; rw [if_pos (by rw [d1, decide_eq_true HK.out, hx]; rfl)] at h; exact h)
            clear HR5 hx hs6 hg6 ha5 hB5 hX5 HOw
            go_wp2_with fail
            refine at_need ha6 _ [44] rfl HR6 (fun w7 HR7 ha7 hg7 => ?_) (fun j c w' hr hg => ⟨rfl, PPost.failed hr.out hg⟩)
            have hB7 := hB6.grown hg7 hBp
            have hX7 := hX6.grown hg7 hXp
            have HO7 := Lib.hid (HOw6.out.grown goodE hg7 (by have := ha7.hp; omega))
            have h67 := hg7.size
            clear hg7 hB6 hX6 HOw6 HR6 ha6
            have r6 := hX7.cell 6 rfl
            go_wp2_with fail
            go_region_law (first | (refine step_push goodE (by rfl) (.tmp 36) (.tmp 39) 32 (by rfl) (w.heap.size + 1 + 1) 34 i0' _ 88 Tryz.underlying32 hi0' hz0 hz1 hz2 (by rfl) (by omega) (by omega) (.slice A8 l.length c8') l (by rfl) (HO8.out.below goodE (below1 w8 _)) w8.heap.size 1 [.int .i64 c0, .int .i64 c1, .int .i64 c2, .int .i64 c3, .string c4, .string c5, .slice C c6 c7] f2 (by rfl) (Blk.new w8 _ _) (goodE.below (goodE.mono hrf fun q hq hl => ⟨by have hq2 : w7.heap.size ≤ q := hq.1; omega, fun e => by have := (HO7.out.blk q e).2; have hq2 : w7.heap.size ≤ q := hq.1; omega⟩) (below1 w8 _)) (by omega) (by simp; omega) ?_; intro gg cap w9 hO9 hg9; have hX9 := (hX8.alloc _).push hg9 (fun e => by have := (HO7.out.blk _ e).1; omega); have y96 := hX9.cell 6 rfl; have z96 := hX9.free 6) | (go_simp; go_at_call 41; refine at_call (HO.out _ _ dj (by omega) (ha7.drewN 1).st) (ha7.drewN 1) HR7 (fun f2 q d8 val w8 HR8 hv ha8 hij8 hg8 => ?_) (fun j c w' hr hg => ⟨rfl, PPost.failed hr.out hg⟩); obtain ⟨fs, rfl, hrf⟩ := hv; obtain ⟨c0, c1, c2, c3, c4, c5, C, c6, c7, rfl⟩ := erep_lit hrf; have hX8 := (hX7.drewN 1).grown hg8 hXp; have HO8 := Lib.hid ((HO7.out.below goodE (belowD w7 1)).grown goodE hg8 (by have := ha7.hp; omega)); have y6 := hX8.cell 6 rfl; have z6 := hX8.free 6; have l9 : w.heap.size + 1 < w8.heap.size := hX8.lt; have h78 : w7.heap.size ≤ w8.heap.size := hg8.size))
            all_goals
              have HLT : Hid (∀ g, (Value.slice A8 l.length c8').ownBlock = some g → w.heap.size + 1 + 1 ≤ g) := Lib.hid (fun g e => (HO7.out.blk g e).1)
              have ha9 := ((ha8.alloc (.cells #[.int .i64 c0, .int .i64 c1, .int .i64 c2, .int .i64 c3, .string c4, .string c5, .slice C c6 c7] 34)).push hg9 (fun g e => by have := HLT.out g e; omega)).set (show w.heap.size ≤ w.heap.size + 1 by omega) 6 (.slice (some ⟨gg, 0, none⟩) (l.length + 1) cap)
              have hB9 := ((((hB7.drewN 1).grown hg8 hBp).alloc (.cells #[.int .i64 c0, .int .i64 c1, .int .i64 c2, .int .i64 c3, .string c4, .string c5, .slice C c6 c7] 34)).push hg9 (fun e => by have := HLT.out _ e; omega)).grown (only_setCell (World.grownBy.refl _ _) 6 (.slice (some ⟨gg, 0, none⟩) (l.length + 1) cap)) (show w.heap.size ≠ w.heap.size + 1 by omega)
              have hX10 := hX9.set 6 (.slice (some ⟨gg, 0, none⟩) (l.length + 1) cap)
              have HO10 := Lib.hid (hO9.far goodE (only_setCell (World.grownBy.refl w9 _) 6 (.slice (some ⟨gg, 0, none⟩) (l.length + 1) cap)) (show w.heap.size + 1 < w.heap.size + 1 + 1 by omega))
              have hz9 : w8.heap.size + 1 ≤ w9.heap.size := by have := hg9.size; simpa using this
              have hs9 : (w9.setCell ⟨w.heap.size + 1, 6, none⟩ (.slice (some ⟨gg, 0, none⟩) (l.length + 1) cap)).heap.size = w9.heap.size := by simp [World.setCell]
              have hle8 := ha8.st.le
              clear hg9 hO9 hX9 y96 z96 y6 z6 l9 hX8 HO8 hrf ha8 hg8 HO7 hB7 hX7 r6 ha7 HR7
              generalize w9.setCell ⟨w.heap.size + 1, 6, none⟩ (.slice (some ⟨gg, 0, none⟩) (l.length + 1) cap) = w10 at ha9 hB9 hX10 HO10 hs9 ⊢
              go_wp2_with fail
              go_roundg (T.length - q)
              case measure => omega
              case rel => exact ⟨q, d8, mk, l ++ [f2], _, ⟨by omega, by simp, ⟨by omega, ha9, hB9, hX10, HO10.out, by simp; omega, by omega, by omega, by simpa using HR8.out⟩⟩⟩
          · have ha6 := ha5.call hg6 hs6
            have hB6 := hB5.grown hg6 hBp
            have hX6 := hX5.grown hg6 hXp
            have HOw6 := Lib.hid (HOw.out.grown goodE hg6 (by have := ha6.hp; omega))
            have h56 := hg6.size
            have HR6 : Hid ((pNeed [41] >>= fun _ => (pure (E.node op l) : P E)) (cores T) jj dj = r) := Lib.hid (by have h := HR5.out; rw [if_neg (by rw [d1, hx]; simp)] at h; exact h)
            clear HR5 hx hs6 hg6 ha5 hB5 hX5 HOw
            go_wp2_with fail
            refine at_need ha6 _ [41] rfl HR6 (fun w7 HR7 ha7 hg7 => ?_) (fun j c w' hr hg => ⟨rfl, PPost.failed hr.out hg⟩)
            have hB7 := hB6.grown hg7 hBp
            have hX7 := hX6.grown hg7 hXp
            have HO7 := Lib.hid ((HOw6.out.grown goodE hg7 (by have := ha7.hp; omega)).done goodE)
            clear hg7 hB6 hX6 HOw6 HR6 ha6
            have r0 := hX7.cell 0 rfl
            have r1 := hX7.cell 1 rfl
            have r2 := hX7.cell 2 rfl
            have r3 := hX7.cell 3 rfl
            have r4 := hX7.cell 4 rfl
            have r5 := hX7.cell 5 rfl
            have r6 := hX7.cell 6 rfl
            go_wp2_with (refine store_blk rfl 34 (.tmp 6) (.tmp 44) rfl w.heap.size (eCells op 0 V.null [] (.slice A8 l.length c8')) rfl rfl 34 _ hB7 (by kernel_rfl) rfl (one_eCells _ _ _ _ rfl) ?_)
            intro w8 hB8 hg8 hz8
            have HF8 := Lib.hid (HO7.out.kept goodE (w' := w8) fun q hq hl => hg8.block q hl (fun e => by injection e with e; omega))
            have ha8 := ha7.own hg8 (Nat.le_refl _)
            clear HO7 r0 r1 r2 r3 r4 r5 r6 hg8 hB7 hX7 ha7
            go_wp2_with fail
            refine bodyPost_ret (results_cell_row Tryz.results165 _ _ w.heap.size _ _ _ _ rfl hB8 Tryz.underlying34 rfl (by kernel_rfl)) rfl ?_
            exact at_ok ha8 HR7.out.symm ⟨_, rfl, erep_iff.2 ⟨_, rfl, HF8.out.mono goodE fun q hq _ => ⟨by omega, by simp⟩⟩⟩ (by omega)
        · have d2 : ((k : Int) == 0) = false := by rw [beq_eq_false_iff_ne]; omega
          have HR6 : Hid ((pNeed [41] >>= fun _ => (pure (E.node op l) : P E)) (cores T) jj dj = r) := Lib.hid (by have h := HR5.out; rw [if_neg (by rw [d1, decide_eq_false hk0]; simp)] at h; exact h)
          clear HR5 hlk hk0
          have ha6 := ha5
          have hB6 := hB5
          have hX6 := hX5
          have HOw6 := HOw
          clear ha5 hB5 hX5 HOw
          go_wp2_with fail
          refine at_need ha6 _ [41] rfl HR6 (fun w7 HR7 ha7 hg7 => ?_) (fun j c w' hr hg => ⟨rfl, PPost.failed hr.out hg⟩)
          have hB7 := hB6.grown hg7 hBp
          have hX7 := hX6.grown hg7 hXp
          have HO7 := Lib.hid ((HOw6.out.grown goodE hg7 (by have := ha7.hp; omega)).done goodE)
          clear hg7 hB6 hX6 HOw6 HR6 ha6
          have r0 := hX7.cell 0 rfl
          have r1 := hX7.cell 1 rfl
          have r2 := hX7.cell 2 rfl
          have r3 := hX7.cell 3 rfl
          have r4 := hX7.cell 4 rfl
          have r5 := hX7.cell 5 rfl
          have r6 := hX7.cell 6 rfl
          go_wp2_with (refine store_blk rfl 34 (.tmp 6) (.tmp 44) rfl w.heap.size (eCells op 0 V.null [] (.slice A8 l.length c8')) rfl rfl 34 _ hB7 (by kernel_rfl) rfl (one_eCells _ _ _ _ rfl) ?_)
          intro w8 hB8 hg8 hz8
          have HF8 := Lib.hid (HO7.out.kept goodE (w' := w8) fun q hq hl => hg8.block q hl (fun e => by injection e with e; omega))
          have ha8 := ha7.own hg8 (Nat.le_refl _)
          clear HO7 r0 r1 r2 r3 r4 r5 r6 hg8 hB7 hX7 ha7
          go_wp2_with fail
          refine bodyPost_ret (results_cell_row Tryz.results165 _ _ w.heap.size _ _ _ _ rfl hB8 Tryz.underlying34 rfl (by kernel_rfl)) rfl ?_
          exact at_ok ha8 HR7.out.symm ⟨_, rfl, erep_iff.2 ⟨_, rfl, HF8.out.mono goodE fun q hq _ => ⟨by omega, by simp⟩⟩⟩ (by omega)
end Go.Proofs.YtpmncgbpbcgfaaaGreatDoor

/-
  Operands without a sign.
-/
namespace Go.Proofs.YtpmncgbpbcgfaaaGreatDoor
open Go.RowKit
set_option linter.unusedVariables false
set_option linter.unusedSimpArgs false

theorem kindB_none {T : List Tok} {i k : Nat} (h : T.length ≤ i) : kindB (cores T) i k = false := by unfold kindB; rw [cores_none h]
theorem kindB_at {T : List Tok} {i k : Nat} (h : i < T.length) : kindB (cores T) i k = decide (T[i].kind = k) := by unfold kindB; rw [cores_at h]; rfl
set_option maxHeartbeats 20000000 in
set_option maxRecDepth 100000 in
theorem primary_call (x : P E) (p : Nat) (v : Value) (T : List Tok) (n : Nat) (w : World) (i : Nat) (d : Bool) (hor : OrAt x p v T n (i + 1)) (h : St w p v T i n d) (m : Nat) (hm : T.length ≤ m + i) :
    Calls Tryz.prog 162 #[.pointer (some ⟨p, 0, none⟩)] w (PPost w p v T i n (exprR w.heap.size) (pPrimary m x (cores T) i d)) := by
  obtain ⟨A, c, rfl, hA⟩ := h.slice
  have HA := Lib.hid hA
  have hl := h.tk.len
  clear hA
  obtain ⟨r, hr⟩ : ∃ r, pPrimary m x (cores T) i d = r := ⟨_, rfl⟩
  rw [hr]
  unfold pPrimary at hr
  have HR := Lib.hid hr
  have HO := Lib.hid hor
  have ha := At.start h
  clear hr hor h
  go_enter Tryz.func162, Tryz.ntmps162
  go_wp2_with fail
  refine name_alloc (K := fun W => Calls _ _ _ W _) fun w1 hB hw1 hz1 => ?_
  replace ha := ha.below hw1
  have hBp : w.heap.size ≠ p := by have := ha.hp; omega
  clear hw1
  refine at_call (plain_call p _ T i n d w1 ha.st) ha HR (fun o j d' val w2 HR hv ha hij hg2 => ?_) (fun j c w' hr hg => ⟨rfl, PPost.failed hr.out hg⟩)
  obtain rfl := hv
  replace hB := hB.grown hg2 hBp
  have h12 := hg2.size
  clear hg2
  rcases o with _ | u
  case some =>
    unfold vV vCells Option.getD Option.isSome strV
    go_upto_region 2 with (fail)
    refine name_alloc (K := Code.wp _ _ _ _) fun w3 hb3 hw3 hz3 => ?_
    replace ha := ha.below hw3
    replace hB := hB.below hw3
    clear hw3
    have c0 := hb3.cell 0 rfl
    have c1 := hb3.cell 1 rfl
    have c2 := hb3.cell 2 rfl
    go_wp2_with (refine store_blk rfl 34 (.tmp 2) (.tmp 16) rfl w.heap.size (eCells 1 0 u [] (.slice none 0 0)) rfl rfl 34 _ hB (by kernel_rfl) rfl (one_eCells _ _ _ _ rfl) ?_)
    intro w20 hB20 hg20 hz20
    have ha20 := ha.own hg20 (Nat.le_refl _)
    clear hB hg20 hz20 ha
    go_wp2_with fail
    refine bodyPost_ret (results_cell_row Tryz.results162 _ _ w.heap.size _ _ _ _ rfl hB20 Tryz.underlying34 rfl (by kernel_rfl)) rfl ?_
    exact at_ok ha20 HR.out.symm ⟨_, rfl, leafR _ _ _ _⟩ (by omega)
  case none =>
    unfold vV vCells Option.getD V.null Option.isSome strV
    go_upto_region 2 with (fail)
    refine name_alloc (K := Code.wp _ _ _ _) fun w3 hb3 hw3 hz3 => ?_
    replace ha := ha.below hw3
    replace hB := hB.below hw3
    clear hw3 hb3
    go_wp2_with fail
    refine at_symbol ha _ [40] rfl HR (fun w4 HR ha hg4 => ?_) (fun w4 HR ha hg4 => ?_)
    · replace hB := hB.grown hg4 hBp
      have h34 := hg4.size
      clear hg4
      go_wp2_with fail
      refine at_call (HO.out w4 (j + 1) d' (by omega) ha.st) ha HR (fun e j5 d5 val w5 HR hv ha hij5 hg5 => ?_) (fun j c w' hr hg => ⟨rfl, PPost.failed hr.out hg⟩)
      obtain ⟨cs, rfl, hre⟩ := hv
      obtain ⟨a0, a1, a2, a3, a4, a5, B, a6, a7, rfl⟩ := erep_lit hre
      have HE := Lib.hid (goodE.more (goodE.made (base := w.heap.size) (L := [w.heap.size]) hre (by omega) (by intro q hq; simp at hq; omega)) (Nat.le_refl _))
      replace hB := hB.grown hg5 hBp
      have h45 := hg5.size
      clear hre hg5
      go_wp2_with fail
      refine name_alloc (K := fun W => Calls _ _ _ W _) fun w6 hX hw6 hz6 => ?_
      have h50 := ha.le
      replace ha := ha.below hw6
      replace hB := hB.below hw6
      replace HE := Lib.hid (goodE.below HE.out hw6)
      clear hw6
      have hXp : w5.heap.size ≠ p := by have := ha.hp; omega
      refine at_need ha _ [41] rfl HR (fun w7 HR ha hg7 => ?_) (fun j c w' hr hg => ⟨rfl, PPost.failed hr.out hg⟩)
      replace hB := hB.grown hg7 hBp
      replace hX := hX.grown hg7 hXp
      replace HE := Lib.hid (goodE.grown HE.out hg7 ha.hp)
      clear hg7
      have HX : Hid (r = .ok e (j5 + 1) d5) := Lib.hid HR.out.symm
      have r0 := hX.cell 0 rfl
      have r1 := hX.cell 1 rfl
      have r2 := hX.cell 2 rfl
      have r3 := hX.cell 3 rfl
      have r4 := hX.cell 4 rfl
      have r5 := hX.cell 5 rfl
      have r6 := hX.cell 6 rfl
      go_wp2_with (refine store_blk rfl 34 (.tmp 2) (.tmp 24) rfl w.heap.size ([.int .i64 a0, .int .i64 a1, .int .i64 a2, .int .i64 a3, .string a4, .string a5, .slice B a6 a7]) rfl rfl 34 _ hB (by kernel_rfl) rfl (goodE.one HE.out) ?_)
      intro w20 hB20 hg20 hz20
      have ha20 := ha.own hg20 (Nat.le_refl _)
      have HE20 := Lib.hid (goodE.own HE.out hg20 (by simp))
      clear HE r0 r1 r2 r3 r4 r5 r6
      clear hB hg20 hz20 ha
      go_wp2_with fail
      refine bodyPost_ret (results_cell_row Tryz.results162 _ _ w.heap.size _ _ _ _ rfl hB20 Tryz.underlying34 rfl (by kernel_rfl)) rfl ?_
      exact at_ok ha20 HX.out ⟨_, rfl, goodE.all HE20.out⟩ (by omega)
    · replace hB := hB.grown hg4 hBp
      have h34 := hg4.size
      clear hg4
      go_wp2_with fail
      refine at_word ha _ [73, 70] rfl HR (fun w5 HR ha hg => ?_) (fun w5 HR ha hg => ?_)
      · replace hB := hB.grown hg hBp
        have hzz := hg.size
        clear hg
        go_wp2_with fail
        refine at_last (call_call x p _ T (i + 1) n HO.out w5 _ _ (by omega) ha.st 22 3 m (by omega) (by omega)) ha HR (fun e j9 d9 val w9 HR hv ha hij9 hg9 => ?_) (fun j c w' hr hg => ⟨rfl, PPost.failed hr.out hg⟩)
        have hBl := hB.lt
        replace hB := hB.grown hg9 hBp
        clear hg9
        obtain ⟨cs, rfl, hre⟩ := hv
        have hlen := goodE.len hre
        have HE := Lib.hid (goodE.made (base := w.heap.size) (L := [w.heap.size]) hre (by omega) (by intro q hq; simp at hq; omega))
        clear hre
        go_wp2_with (refine store_blk rfl 34 (.tmp 2) (.tmp 29) rfl w.heap.size cs rfl rfl 34 _ hB (by rw [hlen]; kernel_rfl) (by rw [hlen]; rfl) (goodE.one HE.out) ?_)
        intro w20 hB20 hg20 hz20
        have ha20 := ha.own hg20 (Nat.le_refl _)
        have HE20 := Lib.hid (goodE.own HE.out hg20 (by simp))
        clear hB hg20 hz20 ha HE
        go_wp2_with fail
        refine bodyPost_ret (results_cell_row Tryz.results162 _ _ w.heap.size _ _ _ _ rfl hB20 Tryz.underlying34 rfl (by rw [List.size_toArray, hlen]; kernel_rfl)) rfl ?_
        exact at_ok ha20 HR.out ⟨_, rfl, goodE.all HE20.out⟩ (by omega)
      · replace hB := hB.grown hg hBp
        have hz5' := hg.size
        clear hg
        go_wp2_with fail
        refine at_word ha _ [67, 79, 65, 76, 69, 83, 67, 69] rfl HR (fun w6 HR ha hg => ?_) (fun w6 HR ha hg => ?_)
        · replace hB := hB.grown hg hBp
          have hzz := hg.size
          clear hg
          go_wp2_with fail
          refine at_last (call_call x p _ T (i + 1) n HO.out w6 _ _ (by omega) ha.st 23 0 m (by omega) (by omega)) ha HR (fun e j9 d9 val w9 HR hv ha hij9 hg9 => ?_) (fun j c w' hr hg => ⟨rfl, PPost.failed hr.out hg⟩)
          have hBl := hB.lt
          replace hB := hB.grown hg9 hBp
          clear hg9
          obtain ⟨cs, rfl, hre⟩ := hv
          have hlen := goodE.len hre
          have HE := Lib.hid (goodE.made (base := w.heap.size) (L := [w.heap.size]) hre (by omega) (by intro q hq; simp at hq; omega))
          clear hre
          go_wp2_with (refine store_blk rfl 34 (.tmp 2) (.tmp 34) rfl w.heap.size cs rfl rfl 34 _ hB (by rw [hlen]; kernel_rfl) (by rw [hlen]; rfl) (goodE.one HE.out) ?_)
          intro w20 hB20 hg20 hz20
          have ha20 := ha.own hg20 (Nat.le_refl _)
          have HE20 := Lib.hid (goodE.own HE.out hg20 (by simp))
          clear hB hg20 hz20 ha HE
          go_wp2_with fail
          refine bodyPost_ret (results_cell_row Tryz.results162 _ _ w.heap.size _ _ _ _ rfl hB20 Tryz.underlying34 rfl (by rw [List.size_toArray, hlen]; kernel_rfl)) rfl ?_
          exact at_ok ha20 HR.out ⟨_, rfl, goodE.all HE20.out⟩ (by omega)
        · replace hB := hB.grown hg hBp
          have hz6' := hg.size
          clear hg
          go_wp2_with fail
          refine at_word ha _ [76, 69, 78, 71, 84, 72] rfl HR (fun w7 HR ha hg => ?_) (fun w7 HR ha hg => ?_)
          · replace hB := hB.grown hg hBp
            have hzz := hg.size
            clear hg
            go_wp2_with fail
            refine at_last (call_call x p _ T (i + 1) n HO.out w7 _ _ (by omega) ha.st 20 1 m (by omega) (by omega)) ha HR (fun e j9 d9 val w9 HR hv ha hij9 hg9 => ?_) (fun j c w' hr hg => ⟨rfl, PPost.failed hr.out hg⟩)
            have hBl := hB.lt
            replace hB := hB.grown hg9 hBp
            clear hg9
            obtain ⟨cs, rfl, hre⟩ := hv
            have hlen := goodE.len hre
            have HE := Lib.hid (goodE.made (base := w.heap.size) (L := [w.heap.size]) hre (by omega) (by intro q hq; simp at hq; omega))
            clear hre
            go_wp2_with (refine store_blk rfl 34 (.tmp 2) (.tmp 39) rfl w.heap.size cs rfl rfl 34 _ hB (by rw [hlen]; kernel_rfl) (by rw [hlen]; rfl) (goodE.one HE.out) ?_)
            intro w20 hB20 hg20 hz20
            have ha20 := ha.own hg20 (Nat.le_refl _)
            have HE20 := Lib.hid (goodE.own HE.out hg20 (by simp))
            clear hB hg20 hz20 ha HE
            go_wp2_with fail
            refine bodyPost_ret (results_cell_row Tryz.results162 _ _ w.heap.size _ _ _ _ rfl hB20 Tryz.underlying34 rfl (by rw [List.size_toArray, hlen]; kernel_rfl)) rfl ?_
            exact at_ok ha20 HR.out ⟨_, rfl, goodE.all HE20.out⟩ (by omega)
          · replace hB := hB.grown hg hBp
            have hz7' := hg.size
            clear hg
            go_wp2_with fail
            have h0 := ha.st.ps.c0
            have h1 := ha.st.ps.c1
            by_cases hjl : T.length ≤ j
            · have HRr : Hid (pRef (cores T) j d' = r) := Lib.hid (by have h := HR.out; rw [if_neg (by rw [kindB_none hjl]; decide)] at h; exact h)
              have d1 : decide (j < T.length) = false := decide_eq_false (by omega)
              clear HR
              go_quiet (fail)
              refine name_drew (K := Exit.then _ _ _ _) fun w8 hw8 hz8 => ?_
              replace ha := ha.below hw8
              replace hB := hB.below hw8
              clear h0 h1 hw8
              go_wp2_with fail
              refine at_last (ref_call p _ T j n d' w8 ha.st) ha HRr (fun e j9 d9 val w9 HR hv ha hij9 hg9 => ?_) (fun j c w' hr hg => ⟨rfl, PPost.failed hr.out hg⟩)
              have hBl := hB.lt
              replace hB := hB.grown hg9 hBp
              clear hg9
              obtain ⟨cs, rfl, hre⟩ := hv
              have hlen := goodE.len hre
              have HE := Lib.hid (goodE.made (base := w.heap.size) (L := [w.heap.size]) hre (by omega) (by intro q hq; simp at hq; omega))
              clear hre
              go_wp2_with (refine store_blk rfl 34 (.tmp 2) (.tmp 101) rfl w.heap.size cs rfl rfl 34 _ hB (by rw [hlen]; kernel_rfl) (by rw [hlen]; rfl) (goodE.one HE.out) ?_)
              intro w20 hB20 hg20 hz20
              have ha20 := ha.own hg20 (Nat.le_refl _)
              have HE20 := Lib.hid (goodE.own HE.out hg20 (by simp))
              clear hB hg20 hz20 ha HE
              go_wp2_with fail
              refine bodyPost_ret (results_cell_row Tryz.results162 _ _ w.heap.size _ _ _ _ rfl hB20 Tryz.underlying34 rfl (by rw [List.size_toArray, hlen]; kernel_rfl)) rfl ?_
              exact at_ok ha20 HR.out ⟨_, rfl, goodE.all HE20.out⟩ (by omega)
            · obtain ⟨g, rfl⟩ := HA.out (by omega)
              have hjl' : j < T.length := by omega
              have d1 : decide ((j : Int) < (T.length : Int)) = true := decide_eq_true (by omega)
              have c2 : (j : Int) < (T.length : Int) := by omega
              have c3 : (0 : Int) ≤ (j : Int) := by omega
              obtain ⟨t0, t1, t2, t3⟩ := ha.st.tok (k := j) hjl'
              clear t2 t3
              have HKd := Lib.hid (kindB_at (k := 2) hjl')
              have HTx := Lib.hid (cores_at hjl')
              generalize T[j] = tk at t0 t1 HKd HTx
              by_cases hk : tk.kind = 2
              · have c4 : ((tk.kind : Int) == 2) = true := by rw [beq_iff_eq]; omega
                have HRb : Hid ((match boundOf tk.text with
                    | none => pWrong
                    | some b => (pStep >>= fun _ => pNeed [40] >>= fun _ => pName >>= fun s => pNeed [41] >>= fun _ => pure (E.mk 26 b V.null s []) : P E)) (cores T) j d' = r) := Lib.hid (by
                  have h := HR.out
                  rw [if_pos (by rw [HKd.out, decide_eq_true hk]), HTx.out] at h
                  rw [← h]
                  show (match boundOf tk.text with
                    | none => pWrong
                    | some b => (pStep >>= fun _ => pNeed [40] >>= fun _ => pName >>= fun s => pNeed [41] >>= fun _ => pure (E.mk 26 b V.null s []) : P E)) (cores T) j d' = match boundOf tk.text with | none => _ | some b => _
                  rcases boundOf tk.text with _ | b <;> rfl)
                clear HR HKd HTx hk
                go_quiet (fail)
                refine name_drew (K := Exit.then _ _ _ _) fun w8 hw8 hz8 => ?_
                have hg1 : g < w7.heap.size := World.block_lt_of_cell? w7 _ t0
                replace t1 := (hw8.cell (p := ⟨g, j * 4 + 1, none⟩) hg1).trans t1
                replace ha := ha.below hw8
                replace hB := hB.below hw8
                clear h0 h1 hw8 t0 c4 hg1
                have h0 := ha.st.ps.c0
                have h1 := ha.st.ps.c1
                go_wp2_with fail
                go_quiet ((go_at_call 166; exact (bound_call _ _).mono fun _ _ hh => ⟨hh.1, _, hh.2.symm⟩))
                refine name_drew (K := Exit.then _ _ _ _) fun w9 hw9 hz9 => ?_
                replace ha := ha.below hw9
                replace hB := hB.below hw9
                clear h0 h1 hw9 t1
                rw [show (ByteArray.mk tk.text.toArray).data.toList = tk.text from rfl]
                rcases hbo : boundOf tk.text with _ | b
                · have HRw : Hid ((pWrong : P E) (cores T) j d' = r) := Lib.hid (by have h := HRb.out; rw [hbo] at h; exact h)
                  clear hbo HRb
                  unfold Option.getD Option.isSome
                  go_wp2_with fail
                  exact at_wrong ha HRw (fun j c w' hr hg => ⟨rfl, PPost.failed hr.out hg⟩)
                · have HRs : Hid ((pNeed [40] >>= fun _ => pName >>= fun s => pNeed [41] >>= fun _ => (pure (E.mk 26 b V.null s []) : P E)) (cores T) (j + 1) d' = r) := Lib.hid (by have h := HRb.out; rw [hbo] at h; exact h)
                  clear hbo HRb
                  unfold Option.getD Option.isSome
                  have h1 := ha.st.ps.c1
                  have hf := ha.st.ps.free 1
                  have e1 : IntKind.i64.wrap ((j : Int) + 1) = (j : Int) + 1 := by rw [IntWalk.i64_in _ (by omega)]
                  go_wp2_with fail
                  refine name_step ha (by omega) (K := fun W => Calls _ _ _ W _) fun w10 ha hg10 hz10 => ?_
                  replace hB := hB.grown hg10 hBp
                  clear h1 hf e1 hg10
                  refine at_need ha _ [40] rfl HRs (fun w11 HR ha hg11 => ?_) (fun j c w' hr hg => ⟨rfl, PPost.failed hr.out hg⟩)
                  replace hB := hB.grown hg11 hBp
                  clear hg11 HRs
                  go_wp2_with fail
                  refine at_call (name_call p _ T _ n _ w11 ha.st) ha HR (fun nm j12 d12 val w12 HR hv ha hij12 hg12 => ?_) (fun j c w' hr hg => ⟨rfl, PPost.failed hr.out hg⟩)
                  obtain ⟨rfl, hlnm⟩ := hv
                  replace hB := hB.grown hg12 hBp
                  clear hg12
                  unfold strV
                  go_wp2_with fail
                  refine name_alloc (K := fun W => Calls _ _ _ W _) fun w13 hX hw13 hz13 => ?_
                  have h120 := ha.le
                  replace ha := ha.below hw13
                  replace hB := hB.below hw13
                  clear hw13
                  refine at_need ha _ [41] rfl HR (fun w14 HR ha hg14 => ?_) (fun j c w' hr hg => ⟨rfl, PPost.failed hr.out hg⟩)
                  replace hB := hB.grown hg14 hBp
                  replace hX := hX.grown hg14 (by have := ha.hp; omega)
                  clear hg14
                  have r0 := hX.cell 0 rfl
                  have r1 := hX.cell 1 rfl
                  have r2 := hX.cell 2 rfl
                  have r3 := hX.cell 3 rfl
                  have r4 := hX.cell 4 rfl
                  have r5 := hX.cell 5 rfl
                  have r6 := hX.cell 6 rfl
                  go_wp2_with (refine store_blk rfl 34 (.tmp 2) (.tmp 99) rfl w.heap.size (eCells 26 b V.null nm (.slice none 0 0)) rfl rfl 34 _ hB (by kernel_rfl) rfl (one_eCells _ _ _ _ rfl) ?_)
                  intro w20 hB20 hg20 hz20
                  have ha20 := ha.own hg20 (Nat.le_refl _)
                  clear hB hg20 hz20 ha r0 r1 r2 r3 r4 r5 r6
                  go_wp2_with fail
                  refine bodyPost_ret (results_cell_row Tryz.results162 _ _ w.heap.size _ _ _ _ rfl hB20 Tryz.underlying34 rfl (by kernel_rfl)) rfl ?_
                  exact at_ok ha20 HR.out.symm ⟨_, rfl, leafR _ _ _ _⟩ (by omega)
              · have c4 : ((tk.kind : Int) == 2) = false := by rw [beq_eq_false_iff_ne]; omega
                have HRr : Hid (pRef (cores T) j d' = r) := Lib.hid (by have h := HR.out; rw [if_neg (by rw [HKd.out, decide_eq_false hk]; decide)] at h; exact h)
                clear HR HKd HTx hk
                go_quiet (fail)
                refine name_drew (K := Exit.then _ _ _ _) fun w8 hw8 hz8 => ?_
                replace ha := ha.below hw8
                replace hB := hB.below hw8
                clear h0 h1 hw8 t0 t1
                go_wp2_with fail
                refine at_last (ref_call p _ T j n d' w8 ha.st) ha HRr (fun e j9 d9 val w9 HR hv ha hij9 hg9 => ?_) (fun j c w' hr hg => ⟨rfl, PPost.failed hr.out hg⟩)
                have hBl := hB.lt
                replace hB := hB.grown hg9 hBp
                clear hg9
                obtain ⟨cs, rfl, hre⟩ := hv
                have hlen := goodE.len hre
                have HE := Lib.hid (goodE.made (base := w.heap.size) (L := [w.heap.size]) hre (by omega) (by intro q hq; simp at hq; omega))
                clear hre
                go_wp2_with (refine store_blk rfl 34 (.tmp 2) (.tmp 101) rfl w.heap.size cs rfl rfl 34 _ hB (by rw [hlen]; kernel_rfl) (by rw [hlen]; rfl) (goodE.one HE.out) ?_)
                intro w20 hB20 hg20 hz20
                have ha20 := ha.own hg20 (Nat.le_refl _)
                have HE20 := Lib.hid (goodE.own HE.out hg20 (by simp))
                clear hB hg20 hz20 ha HE
                go_wp2_with fail
                refine bodyPost_ret (results_cell_row Tryz.results162 _ _ w.heap.size _ _ _ _ rfl hB20 Tryz.underlying34 rfl (by rw [List.size_toArray, hlen]; kernel_rfl)) rfl ?_
                exact at_ok ha20 HR.out ⟨_, rfl, goodE.all HE20.out⟩ (by omega)
end Go.Proofs.YtpmncgbpbcgfaaaGreatDoor

/-
  Expressions: the functions that call each other.
-/
namespace Go.Proofs.YtpmncgbpbcgfaaaGreatDoor
open Go.RowKit
set_option linter.unusedVariables false
set_option linter.unusedSimpArgs false

theorem enters_unary : ∀ args w, (callFunc 157 args).run Tryz.prog w = .ok (.enter 157 args) w := enters_of Tryz.func157 (by kernel_rfl) rfl
theorem enters_product : ∀ args w, (callFunc 149 args).run Tryz.prog w = .ok (.enter 149 args) w := enters_of Tryz.func149 (by kernel_rfl) rfl
theorem enters_and : ∀ args w, (callFunc 71 args).run Tryz.prog w = .ok (.enter 71 args) w := enters_of Tryz.func71 (by kernel_rfl) rfl
theorem enters_not : ∀ args w, (callFunc 90 args).run Tryz.prog w = .ok (.enter 90 args) w := enters_of Tryz.func90 (by kernel_rfl) rfl
theorem makeFuncs : ∀ (fn : Fn) (first cap : Array Value) (w : World), (Instr.makeFunc fn first cap).run Tryz.prog w = .ok (.func fn first cap) w := fun _ _ _ _ => rfl
set_option maxHeartbeats 4000000 in
set_option maxRecDepth 100000 in
theorem product_call (x : P E) (p : Nat) (v : Value) (T : List Tok) (i0 n : Nat) (hop : OpAt x 157 #[.pointer (some ⟨p, 0, none⟩)] p v T n i0) (m : Nat) (hm : T.length + 1 ≤ m + i0) :
    OpAt (pChain m mulOps x) 149 #[.pointer (some ⟨p, 0, none⟩)] p v T n i0 := by
  intro w i d hi0 h
  obtain ⟨r, hr⟩ : ∃ r, pChain m mulOps x (cores T) i d = r := ⟨_, rfl⟩
  rw [hr]
  have HR := Lib.hid hr
  have HO := Lib.hid hop
  have ha := At.start h
  clear hr hop h
  have hmf := makeFuncs
  go_enter Tryz.func149, Tryz.ntmps149
  go_wp2_with fail
  refine name_alloc3 (K := fun W => Calls _ _ _ W _) fun w1 hB hS1 hS2 hw1 hz1 => ?_
  replace ha := ha.below hw1
  have hBp : w.heap.size ≠ p := by have := ha.hp; omega
  clear hw1 hmf
  refine at_last (chain_call x 157 p v T i0 n enters_unary HO.out w1 i d hi0 ha.st m (w.heap.size + 1) (w.heap.size + 1 + 1) 3 3 mulOps _ (Ops.ofBlk mulOps hS1 hS2) (by have := ha.hp; omega) (by have := ha.hp; omega) hS1.lt hS2.lt (by decide) (by omega)) ha HR (fun e j d' val w9 HR hv ha hij hg9 => ?_) (fun j c w' hr hg => ⟨rfl, PPost.failed hr.out hg⟩)
  replace hB := hB.grown hg9 hBp
  clear hg9 hS1 hS2
  obtain ⟨cs, rfl, hre⟩ := hv
  have hlen := goodE.len hre
  have HE := Lib.hid (goodE.made (base := w.heap.size) (L := [w.heap.size]) hre (by omega) (by intro q hq; simp at hq; omega))
  clear hre
  go_wp2_with (refine store_blk rfl 34 (.tmp 2) (.tmp 8) rfl w.heap.size cs rfl rfl 34 _ hB (by rw [hlen]; kernel_rfl) (by rw [hlen]; rfl) (goodE.one HE.out) ?_)
  intro w20 hB20 hg20 hz20
  have ha20 := ha.own hg20 (Nat.le_refl _)
  have HE20 := Lib.hid (goodE.own HE.out hg20 (by simp))
  clear hB hg20 hz20 ha HE
  go_wp2_with fail
  refine bodyPost_ret (results_cell_row Tryz.results149 _ _ w.heap.size _ _ _ _ rfl hB20 Tryz.underlying34 rfl (by rw [List.size_toArray, hlen]; kernel_rfl)) rfl ?_
  exact at_ok ha20 HR.out ⟨_, rfl, goodE.all HE20.out⟩ (by omega)
set_option maxHeartbeats 4000000 in
set_option maxRecDepth 100000 in
theorem sum_call (x : P E) (p : Nat) (v : Value) (T : List Tok) (i0 n : Nat) (hop : OpAt x 149 #[.pointer (some ⟨p, 0, none⟩)] p v T n i0) (m : Nat) (hm : T.length + 1 ≤ m + i0) :
    OpAt (pChain m sumOps x) 132 #[.pointer (some ⟨p, 0, none⟩)] p v T n i0 := by
  intro w i d hi0 h
  obtain ⟨r, hr⟩ : ∃ r, pChain m sumOps x (cores T) i d = r := ⟨_, rfl⟩
  rw [hr]
  have HR := Lib.hid hr
  have HO := Lib.hid hop
  have ha := At.start h
  clear hr hop h
  have hmf := makeFuncs
  go_enter Tryz.func132, Tryz.ntmps132
  go_wp2_with fail
  refine name_alloc3 (K := fun W => Calls _ _ _ W _) fun w1 hB hS1 hS2 hw1 hz1 => ?_
  replace ha := ha.below hw1
  have hBp : w.heap.size ≠ p := by have := ha.hp; omega
  clear hw1 hmf
  refine at_last (chain_call x 149 p v T i0 n enters_product HO.out w1 i d hi0 ha.st m (w.heap.size + 1) (w.heap.size + 1 + 1) 3 3 sumOps _ (Ops.ofBlk sumOps hS1 hS2) (by have := ha.hp; omega) (by have := ha.hp; omega) hS1.lt hS2.lt (by decide) (by omega)) ha HR (fun e j d' val w9 HR hv ha hij hg9 => ?_) (fun j c w' hr hg => ⟨rfl, PPost.failed hr.out hg⟩)
  replace hB := hB.grown hg9 hBp
  clear hg9 hS1 hS2
  obtain ⟨cs, rfl, hre⟩ := hv
  have hlen := goodE.len hre
  have HE := Lib.hid (goodE.made (base := w.heap.size) (L := [w.heap.size]) hre (by omega) (by intro q hq; simp at hq; omega))
  clear hre
  go_wp2_with (refine store_blk rfl 34 (.tmp 2) (.tmp 8) rfl w.heap.size cs rfl rfl 34 _ hB (by rw [hlen]; kernel_rfl) (by rw [hlen]; rfl) (goodE.one HE.out) ?_)
  intro w20 hB20 hg20 hz20
  have ha20 := ha.own hg20 (Nat.le_refl _)
  have HE20 := Lib.hid (goodE.own HE.out hg20 (by simp))
  clear hB hg20 hz20 ha HE
  go_wp2_with fail
  refine bodyPost_ret (results_cell_row Tryz.results132 _ _ w.heap.size _ _ _ _ rfl hB20 Tryz.underlying34 rfl (by rw [List.size_toArray, hlen]; kernel_rfl)) rfl ?_
  exact at_ok ha20 HR.out ⟨_, rfl, goodE.all HE20.out⟩ (by omega)
set_option maxHeartbeats 4000000 in
set_option maxRecDepth 100000 in
theorem and_call (x : P E) (p : Nat) (v : Value) (T : List Tok) (i0 n : Nat) (hop : OpAt x 90 #[.pointer (some ⟨p, 0, none⟩)] p v T n i0) (m : Nat) (hm : T.length + 1 ≤ m + i0) :
    OpAt (pJoined m 5 [65, 78, 68] x) 71 #[.pointer (some ⟨p, 0, none⟩)] p v T n i0 := by
  intro w i d hi0 h
  obtain ⟨r, hr⟩ : ∃ r, pJoined m 5 [65, 78, 68] x (cores T) i d = r := ⟨_, rfl⟩
  rw [hr]
  have HR := Lib.hid hr
  have HO := Lib.hid hop
  have ha := At.start h
  clear hr hop h
  have hmf := makeFuncs
  go_enter Tryz.func71, Tryz.ntmps71
  go_wp2_with fail
  refine name_alloc (K := fun W => Calls _ _ _ W _) fun w1 hB hw1 hz1 => ?_
  replace ha := ha.below hw1
  have hBp : w.heap.size ≠ p := by have := ha.hp; omega
  clear hw1 hmf
  refine at_last (joined_call x 90 p v T i0 n enters_not HO.out w1 i d hi0 ha.st 5 m _ [65, 78, 68] rfl (by omega)) ha HR (fun e j d' val w9 HR hv ha hij hg9 => ?_) (fun j c w' hr hg => ⟨rfl, PPost.failed hr.out hg⟩)
  replace hB := hB.grown hg9 hBp
  clear hg9
  obtain ⟨cs, rfl, hre⟩ := hv
  have hlen := goodE.len hre
  have HE := Lib.hid (goodE.made (base := w.heap.size) (L := [w.heap.size]) hre (by omega) (by intro q hq; simp at hq; omega))
  clear hre
  go_wp2_with (refine store_blk rfl 34 (.tmp 2) (.tmp 6) rfl w.heap.size cs rfl rfl 34 _ hB (by rw [hlen]; kernel_rfl) (by rw [hlen]; rfl) (goodE.one HE.out) ?_)
  intro w20 hB20 hg20 hz20
  have ha20 := ha.own hg20 (Nat.le_refl _)
  have HE20 := Lib.hid (goodE.own HE.out hg20 (by simp))
  clear hB hg20 hz20 ha HE
  go_wp2_with fail
  refine bodyPost_ret (results_cell_row Tryz.results71 _ _ w.heap.size _ _ _ _ rfl hB20 Tryz.underlying34 rfl (by rw [List.size_toArray, hlen]; kernel_rfl)) rfl ?_
  exact at_ok ha20 HR.out ⟨_, rfl, goodE.all HE20.out⟩ (by omega)
set_option maxHeartbeats 4000000 in
set_option maxRecDepth 100000 in
theorem or_call (x : P E) (p : Nat) (v : Value) (T : List Tok) (i0 n : Nat) (hop : OpAt x 71 #[.pointer (some ⟨p, 0, none⟩)] p v T n i0) (m : Nat) (hm : T.length + 1 ≤ m + i0) :
    OpAt (pJoined m 6 [79, 82] x) 41 #[.pointer (some ⟨p, 0, none⟩)] p v T n i0 := by
  intro w i d hi0 h
  obtain ⟨r, hr⟩ : ∃ r, pJoined m 6 [79, 82] x (cores T) i d = r := ⟨_, rfl⟩
  rw [hr]
  have HR := Lib.hid hr
  have HO := Lib.hid hop
  have ha := At.start h
  clear hr hop h
  have hmf := makeFuncs
  go_enter Tryz.func41, Tryz.ntmps41
  go_wp2_with fail
  refine name_alloc (K := fun W => Calls _ _ _ W _) fun w1 hB hw1 hz1 => ?_
  replace ha := ha.below hw1
  have hBp : w.heap.size ≠ p := by have := ha.hp; omega
  clear hw1 hmf
  refine at_last (joined_call x 71 p v T i0 n enters_and HO.out w1 i d hi0 ha.st 6 m _ [79, 82] rfl (by omega)) ha HR (fun e j d' val w9 HR hv ha hij hg9 => ?_) (fun j c w' hr hg => ⟨rfl, PPost.failed hr.out hg⟩)
  replace hB := hB.grown hg9 hBp
  clear hg9
  obtain ⟨cs, rfl, hre⟩ := hv
  have hlen := goodE.len hre
  have HE := Lib.hid (goodE.made (base := w.heap.size) (L := [w.heap.size]) hre (by omega) (by intro q hq; simp at hq; omega))
  clear hre
  go_wp2_with (refine store_blk rfl 34 (.tmp 2) (.tmp 6) rfl w.heap.size cs rfl rfl 34 _ hB (by rw [hlen]; kernel_rfl) (by rw [hlen]; rfl) (goodE.one HE.out) ?_)
  intro w20 hB20 hg20 hz20
  have ha20 := ha.own hg20 (Nat.le_refl _)
  have HE20 := Lib.hid (goodE.own HE.out hg20 (by simp))
  clear hB hg20 hz20 ha HE
  go_wp2_with fail
  refine bodyPost_ret (results_cell_row Tryz.results41 _ _ w.heap.size _ _ _ _ rfl hB20 Tryz.underlying34 rfl (by rw [List.size_toArray, hlen]; kernel_rfl)) rfl ?_
  exact at_ok ha20 HR.out ⟨_, rfl, goodE.all HE20.out⟩ (by omega)
set_option maxHeartbeats 4000000 in
set_option maxRecDepth 100000 in
theorem not_call (m : Nat) (p : Nat) (v : Value) (T : List Tok) (n : Nat) (w : World) (i : Nat) (d : Bool) (hnot : OpAt (pNot m) 90 #[.pointer (some ⟨p, 0, none⟩)] p v T n (i + 1)) (hsum : SumAt (pSum m (pUnary m)) p v T n i) (h : St w p v T i n d) :
    Calls Tryz.prog 90 #[.pointer (some ⟨p, 0, none⟩)] w (PPost w p v T i n (exprR w.heap.size) (pNot (m + 1) (cores T) i d)) := by
  obtain ⟨r, hr⟩ : ∃ r, pNot (m + 1) (cores T) i d = r := ⟨_, rfl⟩
  rw [hr]
  rw [pNot] at hr
  have HR := Lib.hid hr
  have HN := Lib.hid hnot
  have HS := Lib.hid hsum
  have ha := At.start h
  clear hr hnot hsum h
  go_enter Tryz.func90, Tryz.ntmps90
  go_wp2_with fail
  refine name_alloc (K := fun W => Calls _ _ _ W _) fun w1 hB hw1 hz1 => ?_
  replace ha := ha.below hw1
  have hBp : w.heap.size ≠ p := by have := ha.hp; omega
  clear hw1
  refine at_word ha _ [78, 79, 84] rfl HR (fun w2 HR ha hg2 => ?_) (fun w2 HR ha hg2 => ?_)
  · replace hB := hB.grown hg2 hBp
    have h12 := hg2.size
    clear hg2
    go_wp2_with fail
    refine at_call (HN.out w2 (i + 1) d (by omega) ha.st) ha HR (fun e j d' val w9 HR hv ha hij hg9 => ?_) (fun j c w' hr hg => ⟨rfl, PPost.failed hr.out hg⟩)
    replace hB := hB.grown hg9 hBp
    have h29 := hg9.size
    clear hg9
    obtain ⟨cs, rfl, hre⟩ := hv
    obtain ⟨a0, a1, a2, a3, a4, a5, B, a6, a7, rfl⟩ := erep_lit hre
    have HE := Lib.hid (goodE.made (base := w.heap.size) (L := [w.heap.size]) hre (by omega) (by intro q hq; simp at hq; omega))
    have hBl9 := hB.lt
    have hle9 := ha.le
    clear hre
    go_wp2_with (refine store_blk rfl 34 (.tmp 2) (.tmp 8) rfl w.heap.size (eCells 4 0 V.null [] (.slice (some ⟨w9.heap.size, 0, none⟩) 1 1)) rfl rfl 34 _ (hB.alloc _) (by kernel_rfl) rfl (one_eCells _ _ _ _ rfl) ?_)
    intro w20 hB20 hg20 hz20
    have ha20 := (ha.alloc _).own hg20 (Nat.le_refl _)
    have HE20 := Lib.hid (show ERep w20 (Fp w.heap.size []) (E.node 4 [e]) (eCells 4 0 V.null [] (.slice (some ⟨w9.heap.size, 0, none⟩) 1 1)) from erep_iff.2 ⟨_, rfl, LRep.single goodE (t := 34) ((Blk.new w9 [.int .i64 a0, .int .i64 a1, .int .i64 a2, .int .i64 a3, .string a4, .string a5, .slice B a6 a7] 34).grown hg20 (by omega)) (goodE.all (goodE.own (goodE.below HE.out (below1 w9 _)) hg20 (by simp))) ⟨by omega, by simp⟩⟩)
    clear hB hg20 hz20 ha HE
    go_wp2_with fail
    refine bodyPost_ret (results_cell_row Tryz.results90 _ _ w.heap.size _ _ _ _ rfl hB20 Tryz.underlying34 rfl (by kernel_rfl)) rfl ?_
    exact at_ok ha20 HR.out.symm ⟨_, rfl, HE20.out⟩ (by omega)
  · replace hB := hB.grown hg2 hBp
    have h12 := hg2.size
    clear hg2
    go_wp2_with fail
    refine at_last (compare_call m (pUnary m) p v T i n HS.out w2 i d (by omega) ha.st) ha HR (fun e j d' val w9 HR hv ha hij hg9 => ?_) (fun j c w' hr hg => ⟨rfl, PPost.failed hr.out hg⟩)
    replace hB := hB.grown hg9 hBp
    clear hg9
    obtain ⟨cs, rfl, hre⟩ := hv
    have hlen := goodE.len hre
    have HE := Lib.hid (goodE.made (base := w.heap.size) (L := [w.heap.size]) hre (by omega) (by intro q hq; simp at hq; omega))
    clear hre
    go_wp2_with (refine store_blk rfl 34 (.tmp 2) (.tmp 10) rfl w.heap.size cs rfl rfl 34 _ hB (by rw [hlen]; kernel_rfl) (by rw [hlen]; rfl) (goodE.one HE.out) ?_)
    intro w20 hB20 hg20 hz20
    have ha20 := ha.own hg20 (Nat.le_refl _)
    have HE20 := Lib.hid (goodE.own HE.out hg20 (by simp))
    clear hB hg20 hz20 ha HE
    go_wp2_with fail
    refine bodyPost_ret (results_cell_row Tryz.results90 _ _ w.heap.size _ _ _ _ rfl hB20 Tryz.underlying34 rfl (by rw [List.size_toArray, hlen]; kernel_rfl)) rfl ?_
    exact at_ok ha20 HR.out ⟨_, rfl, goodE.all HE20.out⟩ (by omega)
theorem unary_minus {m : Nat} {T : List Tok} {i : Nat} {d : Bool} {r : R E} (hb : aheadB (cores T) i 0 5 [45] = true) (hr : pUnary (m + 1) (cores T) i d = r) : (if kindB (cores T) (i + 1) 3 = true then (pLiteral >>= fun v => pure (E.const v) : P E) (cores T) i d else (pStep >>= fun _ => pUnary m >>= fun e => pure (E.node 18 [e]) : P E) (cores T) i d) = r := by
  rw [pUnary] at hr
  have := bind_ok (show pAhead 0 5 [45] (cores T) i d = .ok true i d by unfold pAhead; rw [hb]) hr
  exact this
theorem unary_plus {m : Nat} {T : List Tok} {i : Nat} {d : Bool} {r : R E} (hb : aheadB (cores T) i 0 5 [45] = false) (hr : pUnary (m + 1) (cores T) i d = r) : pPrimary m (pOr m) (cores T) i d = r := by
  rw [pUnary] at hr
  have := bind_ok (show pAhead 0 5 [45] (cores T) i d = .ok false i d by unfold pAhead; rw [hb]) hr
  exact this
set_option maxHeartbeats 8000000 in
set_option maxRecDepth 100000 in
theorem unary_call (m : Nat) (p : Nat) (v : Value) (T : List Tok) (n : Nat) (w : World) (i : Nat) (d : Bool) (hun : OpAt (pUnary m) 157 #[.pointer (some ⟨p, 0, none⟩)] p v T n (i + 1)) (hor : OrAt (pOr m) p v T n (i + 1)) (h : St w p v T i n d) (hm : T.length ≤ m + i) :
    Calls Tryz.prog 157 #[.pointer (some ⟨p, 0, none⟩)] w (PPost w p v T i n (exprR w.heap.size) (pUnary (m + 1) (cores T) i d)) := by
  obtain ⟨A, c, rfl, hA⟩ := h.slice
  have HA := Lib.hid hA
  have hl := h.tk.len
  clear hA
  obtain ⟨r, hr⟩ : ∃ r, pUnary (m + 1) (cores T) i d = r := ⟨_, rfl⟩
  rw [hr]
  have HR := Lib.hid hr
  have HU := Lib.hid hun
  have HO := Lib.hid hor
  have ha := At.start h
  clear hr hun hor h
  have e1 : IntKind.i64.wrap ((i : Int) + 1) = (i : Int) + 1 := by have := ha.st.le; rw [IntWalk.i64_in _ (by omega)]
  go_enter Tryz.func157, Tryz.ntmps157
  go_wp2_with fail
  refine name_alloc (K := fun W => Calls _ _ _ W _) fun w1 hB hw1 hz1 => ?_
  replace ha := ha.below hw1
  have hBp : w.heap.size ≠ p := by have := ha.hp; omega
  clear hw1
  refine ahead_use ha.st 0 5 (by omega) _ [45] rfl (fun w2 hx hs2 hg2 => ?_) (fun w2 hx hs2 hg2 => ?_)
  · have HR2 := Lib.hid (unary_minus hx HR.out)
    have hit := ahead_lt hx
    replace ha := ha.call hg2 hs2
    replace hB := hB.grown hg2 hBp
    have h12 := hg2.size
    clear hx hs2 hg2 HR
    have h0 := ha.st.ps.c0
    have h1 := ha.st.ps.c1
    obtain ⟨g, rfl⟩ := HA.out (by omega)
    by_cases hi1 : i + 1 < T.length
    · obtain ⟨t0, t1, t2, t3⟩ := ha.st.tok (k := i + 1) hi1
      clear t1 t2 t3
      have HK := Lib.hid (kindB_at (k := 3) hi1)
      generalize T[i + 1] = tk at t0 HK
      have d1 : decide ((i : Int) + 1 < (T.length : Int)) = true := decide_eq_true (by omega)
      have c2 : (i : Int) + 1 < (T.length : Int) := by omega
      have c3 : (0 : Int) ≤ (i : Int) + 1 := by omega
      have c6 : ((i : Int) + 1).toNat = i + 1 := by omega
      by_cases hk : tk.kind = 3
      · have c4 : ((tk.kind : Int) == 3) = true := by rw [beq_iff_eq]; omega
        have HR3 : Hid ((pLiteral >>= fun v => (pure (E.const v) : P E)) (cores T) i d = r) := Lib.hid (by have h := HR2.out; rw [if_pos (by rw [HK.out, decide_eq_true hk])] at h; exact h)
        clear HR2 HK hk
        go_wp2_with fail
        go_quiet (fail)
        refine name_drew (K := Exit.then _ _ _ _) fun w3 hw3 hz3 => ?_
        replace ha := ha.below hw3
        replace hB := hB.below hw3
        clear h0 h1 hw3 t0
        go_wp2_with fail
        refine at_call (literal_call p _ T i n d w3 ha.st) ha HR3 (fun lv j d' val w9 HR hv ha hij hg9 => ?_) (fun j c w' hr hg => ⟨rfl, PPost.failed hr.out hg⟩)
        obtain rfl := hv
        replace hB := hB.grown hg9 hBp
        clear hg9 HR3
        unfold vV vCells strV
        go_wp2_with (refine store_blk rfl 34 (.tmp 2) (.tmp 36) rfl w.heap.size (eCells 1 0 lv [] (.slice none 0 0)) rfl rfl 34 _ hB (by kernel_rfl) rfl (one_eCells _ _ _ _ rfl) ?_)
        intro w20 hB20 hg20 hz20
        have ha20 := ha.own hg20 (Nat.le_refl _)
        clear hB hg20 hz20 ha
        go_wp2_with fail
        refine bodyPost_ret (results_cell_row Tryz.results157 _ _ w.heap.size _ _ _ _ rfl hB20 Tryz.underlying34 rfl (by kernel_rfl)) rfl ?_
        exact at_ok ha20 HR.out.symm ⟨_, rfl, leafR _ _ _ _⟩ (by omega)
      · have c4 : ((tk.kind : Int) == 3) = false := by rw [beq_eq_false_iff_ne]; omega
        have HR3 : Hid ((pUnary m >>= fun e => (pure (E.node 18 [e]) : P E)) (cores T) (i + 1) d = r) := Lib.hid (by have h := HR2.out; rw [if_neg (by rw [HK.out, decide_eq_false hk]; decide)] at h; exact h)
        clear HR2 HK hk
        go_wp2_with fail
        go_quiet (fail)
        refine name_drew (K := Exit.then _ _ _ _) fun w3 hw3 hz3 => ?_
        replace ha := ha.below hw3
        replace hB := hB.below hw3
        clear h0 h1 hw3 t0
        have h1 := ha.st.ps.c1
        have hf := ha.st.ps.free 1
        go_wp2_with fail
        refine name_step ha (by omega) (K := fun W => Calls _ _ _ W _) fun w4 ha hg4 hz4 => ?_
        replace hB := hB.grown hg4 hBp
        clear h1 hf hg4
        refine at_call (HU.out w4 (i + 1) d (by omega) ha.st) ha HR3 (fun e j d' val w9 HR hv ha hij hg9 => ?_) (fun j c w' hr hg => ⟨rfl, PPost.failed hr.out hg⟩)
        replace hB := hB.grown hg9 hBp
        have h49 := hg9.size
        clear hg9 HR3
        obtain ⟨cs, rfl, hre⟩ := hv
        obtain ⟨a0, a1, a2, a3, a4, a5, B, a6, a7, rfl⟩ := erep_lit hre
        have HE := Lib.hid (goodE.made (base := w.heap.size) (L := [w.heap.size]) hre (by omega) (by intro q hq; simp at hq; omega))
        have hBl9 := hB.lt
        have hle9 := ha.le
        clear hre
        go_wp2_with (refine store_blk rfl 34 (.tmp 2) (.tmp 47) rfl w.heap.size (eCells 18 0 V.null [] (.slice (some ⟨w9.heap.size, 0, none⟩) 1 1)) rfl rfl 34 _ (hB.alloc _) (by kernel_rfl) rfl (one_eCells _ _ _ _ rfl) ?_)
        intro w20 hB20 hg20 hz20
        have ha20 := (ha.alloc _).own hg20 (Nat.le_refl _)
        have HE20 := Lib.hid (show ERep w20 (Fp w.heap.size []) (E.node 18 [e]) (eCells 18 0 V.null [] (.slice (some ⟨w9.heap.size, 0, none⟩) 1 1)) from erep_iff.2 ⟨_, rfl, LRep.single goodE (t := 34) ((Blk.new w9 [.int .i64 a0, .int .i64 a1, .int .i64 a2, .int .i64 a3, .string a4, .string a5, .slice B a6 a7] 34).grown hg20 (by omega)) (goodE.all (goodE.own (goodE.below HE.out (below1 w9 _)) hg20 (by simp))) ⟨by omega, by simp⟩⟩)
        clear hB hg20 hz20 ha HE
        go_wp2_with fail
        refine bodyPost_ret (results_cell_row Tryz.results157 _ _ w.heap.size _ _ _ _ rfl hB20 Tryz.underlying34 rfl (by kernel_rfl)) rfl ?_
        exact at_ok ha20 HR.out.symm ⟨_, rfl, HE20.out⟩ (by omega)
    · have d1 : decide ((i : Int) + 1 < (T.length : Int)) = false := decide_eq_false (by omega)
      have HR3 : Hid ((pUnary m >>= fun e => (pure (E.node 18 [e]) : P E)) (cores T) (i + 1) d = r) := Lib.hid (by have h := HR2.out; rw [if_neg (by rw [kindB_none (by omega)]; decide)] at h; exact h)
      clear HR2
      go_wp2_with fail
      go_quiet (fail)
      refine name_drew (K := Exit.then _ _ _ _) fun w3 hw3 hz3 => ?_
      replace ha := ha.below hw3
      replace hB := hB.below hw3
      clear h0 h1 hw3
      have h1 := ha.st.ps.c1
      have hf := ha.st.ps.free 1
      go_wp2_with fail
      refine name_step ha (by omega) (K := fun W => Calls _ _ _ W _) fun w4 ha hg4 hz4 => ?_
      replace hB := hB.grown hg4 hBp
      clear h1 hf hg4
      refine at_call (HU.out w4 (i + 1) d (by omega) ha.st) ha HR3 (fun e j d' val w9 HR hv ha hij hg9 => ?_) (fun j c w' hr hg => ⟨rfl, PPost.failed hr.out hg⟩)
      replace hB := hB.grown hg9 hBp
      have h49 := hg9.size
      clear hg9 HR3
      obtain ⟨cs, rfl, hre⟩ := hv
      obtain ⟨a0, a1, a2, a3, a4, a5, B, a6, a7, rfl⟩ := erep_lit hre
      have HE := Lib.hid (goodE.made (base := w.heap.size) (L := [w.heap.size]) hre (by omega) (by intro q hq; simp at hq; omega))
      have hBl9 := hB.lt
      have hle9 := ha.le
      clear hre
      go_wp2_with (refine store_blk rfl 34 (.tmp 2) (.tmp 47) rfl w.heap.size (eCells 18 0 V.null [] (.slice (some ⟨w9.heap.size, 0, none⟩) 1 1)) rfl rfl 34 _ (hB.alloc _) (by kernel_rfl) rfl (one_eCells _ _ _ _ rfl) ?_)
      intro w20 hB20 hg20 hz20
      have ha20 := (ha.alloc _).own hg20 (Nat.le_refl _)
      have HE20 := Lib.hid (show ERep w20 (Fp w.heap.size []) (E.node 18 [e]) (eCells 18 0 V.null [] (.slice (some ⟨w9.heap.size, 0, none⟩) 1 1)) from erep_iff.2 ⟨_, rfl, LRep.single goodE (t := 34) ((Blk.new w9 [.int .i64 a0, .int .i64 a1, .int .i64 a2, .int .i64 a3, .string a4, .string a5, .slice B a6 a7] 34).grown hg20 (by omega)) (goodE.all (goodE.own (goodE.below HE.out (below1 w9 _)) hg20 (by simp))) ⟨by omega, by simp⟩⟩)
      clear hB hg20 hz20 ha HE
      go_wp2_with fail
      refine bodyPost_ret (results_cell_row Tryz.results157 _ _ w.heap.size _ _ _ _ rfl hB20 Tryz.underlying34 rfl (by kernel_rfl)) rfl ?_
      exact at_ok ha20 HR.out.symm ⟨_, rfl, HE20.out⟩ (by omega)
  · have HR2 := Lib.hid (unary_plus hx HR.out)
    replace ha := ha.call hg2 hs2
    replace hB := hB.grown hg2 hBp
    have h12 := hg2.size
    clear hx hs2 hg2 HR
    go_wp2_with fail
    refine at_last (primary_call (pOr m) p _ T n w2 i d HO.out ha.st m hm) ha HR2 (fun e j d' val w9 HR hv ha hij hg9 => ?_) (fun j c w' hr hg => ⟨rfl, PPost.failed hr.out hg⟩)
    replace hB := hB.grown hg9 hBp
    clear hg9 HR2
    obtain ⟨cs, rfl, hre⟩ := hv
    have hlen := goodE.len hre
    have HE := Lib.hid (goodE.made (base := w.heap.size) (L := [w.heap.size]) hre (by omega) (by intro q hq; simp at hq; omega))
    clear hre
    go_wp2_with (refine store_blk rfl 34 (.tmp 2) (.tmp 7) rfl w.heap.size cs rfl rfl 34 _ hB (by rw [hlen]; kernel_rfl) (by rw [hlen]; rfl) (goodE.one HE.out) ?_)
    intro w20 hB20 hg20 hz20
    have ha20 := ha.own hg20 (Nat.le_refl _)
    have HE20 := Lib.hid (goodE.own HE.out hg20 (by simp))
    clear hB hg20 hz20 ha HE
    go_wp2_with fail
    refine bodyPost_ret (results_cell_row Tryz.results157 _ _ w.heap.size _ _ _ _ rfl hB20 Tryz.underlying34 rfl (by rw [List.size_toArray, hlen]; kernel_rfl)) rfl ?_
    exact at_ok ha20 HR.out ⟨_, rfl, goodE.all HE20.out⟩ (by omega)
/-- all expressions, by the fuel of the plain parse -/
theorem exprs_call (p : Nat) (v : Value) (T : List Tok) (n : Nat) : ∀ (m i0 : Nat), (3 * (T.length - i0) + 3 ≤ m → OpAt (pOr m) 41 #[.pointer (some ⟨p, 0, none⟩)] p v T n i0) ∧ (3 * (T.length - i0) + 2 ≤ m → OpAt (pNot m) 90 #[.pointer (some ⟨p, 0, none⟩)] p v T n i0) ∧ (3 * (T.length - i0) + 1 ≤ m → OpAt (pUnary m) 157 #[.pointer (some ⟨p, 0, none⟩)] p v T n i0)
  | 0, i0 => ⟨fun h => absurd h (by omega), fun h => absurd h (by omega), fun h => absurd h (by omega)⟩
  | m + 1, i0 => by
    refine ⟨fun h => ?_, fun h => ?_, fun h => ?_⟩
    · rw [pOr]
      exact or_call _ p v T i0 n (and_call _ p v T i0 n ((exprs_call p v T n m i0).2.1 (by omega)) m (by omega)) m (by omega)
    · intro w i d hi hs
      have hle := hs.le
      refine not_call m p v T n w i d ?_ ?_ hs
      · rcases Nat.lt_or_ge i T.length with hlt | hge
        · exact (exprs_call p v T n m (i + 1)).2.1 (by omega)
        · intro w' i' d' hi' hs'
          exact absurd hs'.le (by omega)
      · exact sum_call _ p v T i n (product_call _ p v T i n ((exprs_call p v T n m i).2.2 (by omega)) m (by omega)) m (by omega)
    · intro w i d hi hs
      have hle := hs.le
      refine unary_call m p v T n w i d ?_ ?_ hs (by omega)
      · rcases Nat.lt_or_ge i T.length with hlt | hge
        · exact (exprs_call p v T n m (i + 1)).2.2 (by omega)
        · intro w' i' d' hi' hs'
          exact absurd hs'.le (by omega)
      · rcases Nat.lt_or_ge i T.length with hlt | hge
        · exact (exprs_call p v T n m (i + 1)).1 (by omega)
        · intro w' i' d' hi' hs'
          exact absurd hs'.le (by omega)
end Go.Proofs.YtpmncgbpbcgfaaaGreatDoor

/-
  The parser's expr: an expression, and the mark of one that is too deep.
-/
namespace Go.Proofs.YtpmncgbpbcgfaaaGreatDoor
open Go.RowKit
set_option linter.unusedVariables false
set_option linter.unusedSimpArgs false

theorem gtr24 (e : E) : decide ((24 : Int) < ((min (E.dep e) 25 : Nat) : Int)) = decide (24 < E.dep e) := by
  rw [Bool.eq_iff_iff, decide_eq_true_iff, decide_eq_true_iff]
  omega
theorem pExpr_ok {m : Nat} {C : List Core} {i j : Nat} {d d' : Bool} {e : E} (h : pOr m C i d = .ok e j d') : pExpr m C i d = .ok e j (d' || decide (24 < E.dep e)) := by unfold pExpr; rw [h]
theorem pExpr_fail {m : Nat} {C : List Core} {i j c : Nat} {d : Bool} (h : pOr m C i d = .fail j c) : pExpr m C i d = .fail j c := by unfold pExpr; rw [h]
theorem name_deep {K : World → Prop} {w w0 : World} {p : Nat} {v : Value} {T : List Tok} {i n : Nat} {d : Bool} (ha : At w0 w p v T i n d) (b : Bool) (h : ∀ w', At w0 w' p v T i n b → w.grownBy w' (some p) → w'.heap.size = w.heap.size → K w') : K (w.setCell ⟨p, 3, none⟩ (.bool b)) :=
  h _ (ha.setDeep b) (only_setCell (World.grownBy.refl _ _) 3 _) (by simp [World.setCell])
set_option maxHeartbeats 4000000 in
set_option maxRecDepth 100000 in
theorem expr_call (m : Nat) (p : Nat) (v : Value) (T : List Tok) (n : Nat) (w : World) (i : Nat) (d : Bool) (h : St w p v T i n d) (hm : 3 * (T.length - i) + 3 ≤ m) :
    Calls Tryz.prog 22 #[.pointer (some ⟨p, 0, none⟩)] w (PPost w p v T i n (exprR w.heap.size) (pExpr m (cores T) i d)) := by
  have HO := Lib.hid ((exprs_call p v T n m i).1 hm)
  have ha := At.start h
  clear h
  go_enter Tryz.func22, Tryz.ntmps22
  go_wp2_with fail
  refine name_alloc (K := fun W => Calls _ _ _ W _) fun w1 hB hw1 hz1 => ?_
  replace ha := ha.below hw1
  have hBp : w.heap.size ≠ p := by have := ha.hp; omega
  clear hw1
  refine PPost.use (HO.out w1 i d (Nat.le_refl _) ha.st) (fun e j d' val w2 hr hv hs hij hg2 => ?_) (fun j c w' hr hg => ⟨rfl, PPost.failed (pExpr_fail hr) (grown_trans ha.gr hg)⟩)
  have HR := Lib.hid (pExpr_ok hr)
  replace ha := ha.call hg2 hs
  obtain ⟨cs, rfl, hre⟩ := hv
  obtain ⟨a0, a1, a2, a3, a4, a5, B, a6, a7, rfl⟩ := erep_lit hre
  have HE := Lib.hid (goodE.more (goodE.made (base := w.heap.size) (L := [w.heap.size]) hre (by omega) (by intro q hq; simp at hq; omega)) (Nat.le_refl _))
  replace hB := hB.grown hg2 hBp
  have h12 := hg2.size
  clear hr hre hg2 hs
  go_upto_region 2 with (fail)
  refine name_alloc (K := Code.wp _ _ _ _) fun w3 hX hw3 hz3 => ?_
  replace ha := ha.below hw3
  replace hB := hB.below hw3
  replace HE := Lib.hid (goodE.below HE.out hw3)
  have hXp : w2.heap.size ≠ p := by have := ha.hp; omega
  clear hw3
  have h3 := ha.st.ps.c3
  have f3 := ha.st.ps.free 3
  cases d'
  · have r0 := hX.cell 0 rfl
    have r1 := hX.cell 1 rfl
    have r2 := hX.cell 2 rfl
    have r3 := hX.cell 3 rfl
    have r4 := hX.cell 4 rfl
    have r5 := hX.cell 5 rfl
    have r6 := hX.cell 6 rfl
    go_wp2_with fail
    refine (Depth_call e _ w3 _ HE.out).mono ?_
    rintro e' w4 ⟨rfl, hw4⟩
    replace ha := ha.below hw4
    replace hB := hB.below hw4
    replace hX := hX.below hw4
    replace HE := Lib.hid (goodE.below HE.out hw4)
    clear h3 f3 r0 r1 r2 r3 r4 r5 r6 hw4
    have h3 := ha.st.ps.c3
    have f3 := ha.st.ps.free 3
    have HG := Lib.hid (gtr24 e)
    generalize hq : min (E.dep e) 25 = q at HG
    have HQ := Lib.hid hq
    clear hq
    go_upto_region 3 with (fail)
    refine name_deep ha (decide ((24 : Int) < (q : Int))) (K := Code.wp _ _ _ _) fun w5 ha hg5 hz5 => ?_
    replace hB := hB.grown hg5 hBp
    replace hX := hX.grown hg5 hXp
    replace HE := Lib.hid (goodE.grown HE.out hg5 ha.hp)
    clear hg5 h3 f3
    have r0 := hX.cell 0 rfl
    have r1 := hX.cell 1 rfl
    have r2 := hX.cell 2 rfl
    have r3 := hX.cell 3 rfl
    have r4 := hX.cell 4 rfl
    have r5 := hX.cell 5 rfl
    have r6 := hX.cell 6 rfl
    go_wp2_with (refine store_blk rfl 34 (.tmp 2) (.tmp 18) rfl w.heap.size [.int .i64 a0, .int .i64 a1, .int .i64 a2, .int .i64 a3, .string a4, .string a5, .slice B a6 a7] rfl rfl 34 _ hB (by kernel_rfl) rfl (goodE.one HE.out) ?_)
    intro w20 hB20 hg20 hz20
    have ha20 := ha.own hg20 (Nat.le_refl _)
    have HE20 := Lib.hid (goodE.own HE.out hg20 (by simp))
    clear hB hg20 hz20 ha HE r0 r1 r2 r3 r4 r5 r6
    go_wp2_with fail
    refine bodyPost_ret (results_cell_row Tryz.results22 _ _ w.heap.size _ _ _ _ rfl hB20 Tryz.underlying34 rfl (by kernel_rfl)) rfl ?_
    exact at_ok ha20 (by rw [HR.out, Bool.false_or, ← HG.out]) ⟨_, rfl, goodE.all HE20.out⟩ (by omega)
  · go_upto_region 3 with (fail)
    refine name_deep ha true (K := Code.wp _ _ _ _) fun w5 ha hg5 hz5 => ?_
    replace hB := hB.grown hg5 hBp
    replace hX := hX.grown hg5 hXp
    replace HE := Lib.hid (goodE.grown HE.out hg5 ha.hp)
    clear hg5 h3 f3
    have r0 := hX.cell 0 rfl
    have r1 := hX.cell 1 rfl
    have r2 := hX.cell 2 rfl
    have r3 := hX.cell 3 rfl
    have r4 := hX.cell 4 rfl
    have r5 := hX.cell 5 rfl
    have r6 := hX.cell 6 rfl
    go_wp2_with (refine store_blk rfl 34 (.tmp 2) (.tmp 18) rfl w.heap.size [.int .i64 a0, .int .i64 a1, .int .i64 a2, .int .i64 a3, .string a4, .string a5, .slice B a6 a7] rfl rfl 34 _ hB (by kernel_rfl) rfl (goodE.one HE.out) ?_)
    intro w20 hB20 hg20 hz20
    have ha20 := ha.own hg20 (Nat.le_refl _)
    have HE20 := Lib.hid (goodE.own HE.out hg20 (by simp))
    clear hB hg20 hz20 ha HE r0 r1 r2 r3 r4 r5 r6
    go_wp2_with fail
    refine bodyPost_ret (results_cell_row Tryz.results22 _ _ w.heap.size _ _ _ _ rfl hB20 Tryz.underlying34 rfl (by kernel_rfl)) rfl ?_
    exact at_ok ha20 (by rw [HR.out]; rfl) ⟨_, rfl, goodE.all HE20.out⟩ (by omega)
end Go.Proofs.YtpmncgbpbcgfaaaGreatDoor

/-
  Sources of a query: aggregate, clause, source.
-/
namespace Go.Proofs.YtpmncgbpbcgfaaaGreatDoor
open Go.RowKit
set_option linter.unusedVariables false
set_option linter.unusedSimpArgs false

theorem setCells_blk : ∀ (cs : List Value) (w : World) (g o : Nat) (pre old post : List Value) (t : TypeId), Blk w g (pre ++ (old ++ post)) t → pre.length = o → old.length = cs.length → Blk (w.setCells g o cs) g (pre ++ (cs ++ post)) t
  | [], w, g, o, pre, old, post, t, h, _, hl => by
    obtain rfl : old = [] := List.length_eq_zero_iff.1 hl
    exact h
  | c :: cs, w, g, o, pre, [], post, t, _, _, hl => by simp at hl
  | c :: cs, w, g, o, pre, x :: old, post, t, h, hp, hl => by
    have h1 := h.set o c
    have e : (pre ++ (x :: old ++ post)).set o c = (pre ++ [c]) ++ (old ++ post) := by
      rw [List.set_append_right _ _ (by omega), ← hp]
      simp
    rw [e] at h1
    have := setCells_blk cs _ g (o + 1) (pre ++ [c]) old post t h1 (by simp; omega) (by simpa using hl)
    simpa [World.setCells] using this
theorem grown_setCells : ∀ (cs : List Value) (w : World) (g o : Nat), w.grownBy (w.setCells g o cs) (some g) ∧ (w.setCells g o cs).heap.size = w.heap.size
  | [], w, g, o => ⟨World.grownBy.refl _ _, rfl⟩
  | c :: cs, w, g, o => by
    obtain ⟨h1, h2⟩ := grown_setCells cs (w.setCell ⟨g, o, none⟩ c) g (o + 1)
    refine ⟨grown_trans (only_setCell (World.grownBy.refl _ _) o c) h1, ?_⟩
    show ((w.setCell ⟨g, o, none⟩ c).setCells g (o + 1) cs).heap.size = _
    rw [h2]
    simp [World.setCell]
section
variable {P : Program} {ops : Array Oper} {rest : List Oper} {o : Oper} {a : Act} {w : World} {Q : Exit → Act → World → Prop}
/-- a struct into a field of a block of its own -/
theorem store_part (hgd : o.guard = none) (ty : TypeId) (x y : Operand) (ho : o.op = .store ty x y) (g k : Nat) (cs : List Value)
    (hx : a.eval x = .pointer (some ⟨g, k, none⟩)) (hy : a.eval y = .agg cs.toArray) (t : TypeId) (pre old post : List Value) (hg : Blk w g (pre ++ (old ++ post)) t) (hpre : pre.length = k) (hold : old.length = cs.length) (hi : (P.info? ty).map (·.size) = some cs.length)
    (h1 : ∀ u ∈ cs, u.oneCell' = true)
    (h : ∀ w', Blk w' g (pre ++ (cs ++ post)) t → w.grownBy w' (some g) → w'.heap.size = w.heap.size → wpList P ops Q rest (a.put o.dst undef) w') : wpList P ops Q (o :: rest) a w := by
  obtain ⟨k1, k2⟩ := grown_setCells cs w g k
  refine wpList_store_mid hgd ty x y ho g k cs.toArray hx hy (fun j hj => ⟨?_, hg.free _⟩) (by simpa using hi) (all_oneCell_toArray h1) ?_
  · have hj' : j < cs.length := by simpa using hj
    have hlt : k + j < (pre ++ (old ++ post)).length := by simp; omega
    rw [hg.cell (k + j) (List.getElem?_eq_getElem hlt)]
    rfl
  · simp only [List.toList_toArray]
    exact h _ (setCells_blk cs w g k pre old post t hg hpre hold) k1 k2
end
set_option maxHeartbeats 4000000 in
set_option maxRecDepth 100000 in
theorem aggregate_call (p : Nat) (v : Value) (T : List Tok) (i n : Nat) (d : Bool) (w : World) (h : St w p v T i n d) :
    Calls Tryz.prog 145 #[.pointer (some ⟨p, 0, none⟩)] w (PPost w p v T i n natR (pAggregate (cores T) i d)) := by
  obtain ⟨r, hr⟩ : ∃ r, pAggregate (cores T) i d = r := ⟨_, rfl⟩
  rw [hr]
  unfold pAggregate at hr
  have HR := Lib.hid hr
  have ha := At.start h
  clear hr h
  go_enter Tryz.func145, Tryz.ntmps145
  go_wp2_with fail
  refine at_word ha _ [67, 79, 85, 78, 84] rfl HR (fun w1 HR ha hg1 => ?_) (fun w1 HR ha hg1 => ?_)
  · have tt : True := trivial
    have hs1 := hg1.size
    clear hg1
    go_wp2_with fail
    go_ret
    exact at_ok ha HR.out.symm rfl (by omega)
  · have tt : True := trivial
    have hs1 := hg1.size
    clear hg1
    go_wp2_with fail
    refine at_word ha _ [83, 85, 77] rfl HR (fun w2 HR ha hg2 => ?_) (fun w2 HR ha hg2 => ?_)
    · have tt : True := trivial
      have hs2 := hg2.size
      clear hg2
      go_wp2_with fail
      go_ret
      exact at_ok ha HR.out.symm rfl (by omega)
    · have tt : True := trivial
      have hs2 := hg2.size
      clear hg2
      go_wp2_with fail
      refine at_word ha _ [77, 73, 78] rfl HR (fun w3 HR ha hg3 => ?_) (fun w3 HR ha hg3 => ?_)
      · have tt : True := trivial
        have hs3 := hg3.size
        clear hg3
        go_wp2_with fail
        go_ret
        exact at_ok ha HR.out.symm rfl (by omega)
      · have tt : True := trivial
        have hs3 := hg3.size
        clear hg3
        go_wp2_with fail
        refine at_word ha _ [77, 65, 88] rfl HR (fun w4 HR ha hg4 => ?_) (fun w4 HR ha hg4 => ?_)
        · have tt : True := trivial
          have hs4 := hg4.size
          clear hg4
          go_wp2_with fail
          go_ret
          exact at_ok ha HR.out.symm rfl (by omega)
        · have tt : True := trivial
          have hs4 := hg4.size
          clear hg4
          go_wp2_with fail
          go_ret
          exact at_ok ha HR.out.symm rfl (by omega)
def clauCells (a : Clau) : List Value := [natV a.kind, natV a.lo, natV a.hi]
def clauR (w : World) (v : Value) (a : Clau) : Prop := v = .agg (clauCells a).toArray
set_option maxHeartbeats 8000000 in
set_option maxRecDepth 100000 in
theorem clause_call (p : Nat) (v : Value) (T : List Tok) (i n : Nat) (d : Bool) (w : World) (h : St w p v T i n d) :
    Calls Tryz.prog 146 #[.pointer (some ⟨p, 0, none⟩)] w (PPost w p v T i n clauR (pClause (cores T) i d)) := by
  obtain ⟨r, hr⟩ : ∃ r, pClause (cores T) i d = r := ⟨_, rfl⟩
  rw [hr]
  unfold pClause at hr
  have HR := Lib.hid hr
  have ha := At.start h
  clear hr h
  go_enter Tryz.func146, Tryz.ntmps146
  go_wp2_with fail
  refine name_alloc (K := fun W => Calls _ _ _ W _) fun w1 hB hw1 hz1 => ?_
  replace ha := ha.below hw1
  have hz1' : w.heap.size + 1 ≤ w1.heap.size := by omega
  clear hw1 hz1
  have hBp : w.heap.size ≠ p := by have := ha.hp; omega
  refine at_word ha _ [65, 83] rfl HR (fun w2 HR ha hg2 => ?_) (fun w2 HR ha hg2 => ?_)
  · have tt : True := trivial
    replace hB := hB.grown hg2 hBp
    have hs2 := hg2.size
    clear hg2
    go_wp2_with fail
    refine name_alloc (K := fun W => Calls _ _ _ W _) fun w3 hT hw3 hz3 => ?_
    have hle3 := ha.le
    replace ha := ha.below hw3
    replace hB := hB.below hw3
    have hz3' : w2.heap.size + 1 ≤ w3.heap.size := by omega
    clear hw3 hz3
    refine at_words1 ha hT (by omega) [79, 70] rfl HR (fun w4 HR ha hg4 => ?_) (fun j c w' hr hg => ⟨rfl, PPost.failed hr.out hg⟩)
    replace hB := hB.grown hg4 hBp
    have hs4 := hg4.size
    clear hg4
    clear hT
    go_wp2_with fail
    refine at_call (instant_call p v T _ n _ w4 ha.st) ha HR (fun t j1 d1 val w5 HR hv ha hij5 hg5 => ?_) (fun j c w' hr hg => ⟨rfl, PPost.failed hr.out hg⟩)
    replace hB := hB.grown hg5 hBp
    have hs5 := hg5.size
    clear hg5
    obtain rfl := hv
    have b0 := hB.cell 0 rfl
    have b1 := hB.cell 1 rfl
    have b2 := hB.cell 2 rfl
    have z0 := hB.free 0
    have z1 := hB.free 1
    have z2 := hB.free 2
    go_wp2_with fail
    refine bodyPost_ret (results_cell_row Tryz.results146 _ _ w.heap.size _ _ _ _ rfl (hB.set3 (.int .i64 1) (.int .i64 (t : Int)) (.int .i64 0)) Tryz.underlying26 rfl (by kernel_rfl)) rfl ?_
    exact at_ok (ha.set3 (Nat.le_refl _) _ _ _) HR.out.symm rfl (by omega)
  · have tt : True := trivial
    replace hB := hB.grown hg2 hBp
    have hs5 := hg2.size
    clear hg2
    go_wp2_with fail
    refine at_word ha _ [66, 69, 84, 87, 69, 69, 78] rfl HR (fun w6 HR ha hg6 => ?_) (fun w6 HR ha hg6 => ?_)
    · have tt : True := trivial
      replace hB := hB.grown hg6 hBp
      have hs6 := hg6.size
      clear hg6
      go_wp2_with fail
      refine at_take ha 3 HR (fun f w7 hif HTf hkf hokf HR ha hg7 => ?_) (fun j c w' hr hg => ⟨rfl, PPost.failed hr.out hg⟩)
      replace hB := hB.grown hg7 hBp
      have hs7 := hg7.size
      clear hg7
      unfold tokV strV
      go_wp2_with fail
      refine name_alloc2 (K := fun W => Calls _ _ _ W _) fun w8 hX hT hw8 hz8 => ?_
      have hle8 := ha.le
      replace ha := ha.below hw8
      replace hB := hB.below hw8
      have hz8' : w7.heap.size + 2 ≤ w8.heap.size := by omega
      clear hw8 hz8
      have hXp : w7.heap.size ≠ p := by have := ha.hp; omega
      refine at_words1 ha hT (by omega) [65, 78, 68] rfl HR (fun w9 HR ha hg9 => ?_) (fun j c w' hr hg => ⟨rfl, PPost.failed hr.out hg⟩)
      replace hB := hB.grown hg9 hBp
      replace hX := hX.grown hg9 hXp
      have hs9 := hg9.size
      clear hg9
      clear hT
      go_wp2_with fail
      refine at_take ha 3 HR (fun t w10 hit HTt hkt hokt HR ha hg10 => ?_) (fun j c w' hr hg => ⟨rfl, PPost.failed hr.out hg⟩)
      replace hB := hB.grown hg10 hBp
      replace hX := hX.grown hg10 hXp
      have hs10 := hg10.size
      clear hg10
      unfold tokV strV
      have hf2 := tok_f2
      have f0 := hX.cell 0 rfl
      have f1 := hX.cell 1 rfl
      have f2 := hX.cell 2 rfl
      have f3 := hX.cell 3 rfl
      by_cases hft : f.int ≤ t.int
      · have c1 : decide (f.int ≤ t.int) = true := decide_eq_true hft
        go_wp2_with fail
        refine at_check ha hif HTf (show decide ((t.int : Int) < 1099511627776) = (decide (f.int ≤ t.int) && decide (t.int < forever)) by rw [c1, Bool.true_and]; exact dec_forever t.int) HR (fun w11 hc HR ha hw11 => ?_) (fun j c w' hr hg => ⟨rfl, PPost.failed hr.out hg⟩)
        replace hB := hB.below hw11
        replace hX := hX.below hw11
        clear hw11 hc f0 f1 f2 f3 c1
        have f2 := hX.cell 2 rfl
        have b0 := hB.cell 0 rfl
        have b1 := hB.cell 1 rfl
        have b2 := hB.cell 2 rfl
        have z0 := hB.free 0
        have z1 := hB.free 1
        have z2 := hB.free 2
        go_wp2_with fail
        refine bodyPost_ret (results_cell_row Tryz.results146 _ _ w.heap.size _ _ _ _ rfl (hB.set3 (.int .i64 3) (.int .i64 (f.int : Int)) (.int .i64 (t.int : Int))) Tryz.underlying26 rfl (by kernel_rfl)) rfl ?_
        exact at_ok (ha.set3 (Nat.le_refl _) _ _ _) HR.out.symm rfl (by omega)
      · have c1 : decide (f.int ≤ t.int) = false := decide_eq_false hft
        go_wp2_with fail
        refine at_check ha hif HTf (show false = (decide (f.int ≤ t.int) && decide (t.int < forever)) by rw [c1, Bool.false_and]) HR (fun w12 hc HR ha hw12 => ?_) (fun j c w' hr hg => ⟨rfl, PPost.failed hr.out hg⟩)
        cases hc
    · have tt : True := trivial
      replace hB := hB.grown hg6 hBp
      have hs12 := hg6.size
      clear hg6
      go_wp2_with fail
      refine at_word ha _ [65, 76, 76] rfl HR (fun w13 HR ha hg13 => ?_) (fun w13 HR ha hg13 => ?_)
      · have tt : True := trivial
        replace hB := hB.grown hg13 hBp
        have hs13 := hg13.size
        clear hg13
        have b0 := hB.cell 0 rfl
        have b1 := hB.cell 1 rfl
        have b2 := hB.cell 2 rfl
        have z0 := hB.free 0
        have z1 := hB.free 1
        have z2 := hB.free 2
        go_wp2_with fail
        refine bodyPost_ret (results_cell_row Tryz.results146 _ _ w.heap.size _ _ _ _ rfl (hB.set3 (.int .i64 4) (.int .i64 0) (.int .i64 0)) Tryz.underlying26 rfl (by kernel_rfl)) rfl ?_
        exact at_ok (ha.set3 (Nat.le_refl _) _ _ _) HR.out.symm rfl (by omega)
      · have tt : True := trivial
        replace hB := hB.grown hg13 hBp
        have hs13 := hg13.size
        clear hg13
        go_wp2_with fail
        refine at_call (period_call p v T _ n _ w13 ha.st) ha HR (fun q j1 d1 val w14 HR hv ha hij14 hg14 => ?_) (fun j c w' hr hg => ⟨rfl, PPost.failed hr.out hg⟩)
        replace hB := hB.grown hg14 hBp
        have hs14 := hg14.size
        clear hg14
        obtain rfl := hv
        go_upto_region 13 with (fail)
        refine name_alloc (K := Code.wp _ _ _ _) fun w15 hX hw15 hz15 => ?_
        have hle15 := ha.le
        replace ha := ha.below hw15
        replace hB := hB.below hw15
        have hz15' : w14.heap.size + 1 ≤ w15.heap.size := by omega
        clear hw15 hz15
        have hXp : w14.heap.size ≠ p := by have := ha.hp; omega
        have q0 := hX.cell 0 rfl
        have q1 := hX.cell 1 rfl
        have b0 := hB.cell 0 rfl
        have b1 := hB.cell 1 rfl
        have b2 := hB.cell 2 rfl
        have z0 := hB.free 0
        have z1 := hB.free 1
        have z2 := hB.free 2
        go_wp2_with fail
        refine bodyPost_ret (results_cell_row Tryz.results146 _ _ w.heap.size _ _ _ _ rfl (hB.set3 (.int .i64 2) (.int .i64 (q.1 : Int)) (.int .i64 (q.2 : Int))) Tryz.underlying26 rfl (by kernel_rfl)) rfl ?_
        exact at_ok (ha.set3 (Nat.le_refl _) _ _ _) HR.out.symm rfl (by omega)
end Go.Proofs.YtpmncgbpbcgfaaaGreatDoor
