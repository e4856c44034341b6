import Derived.Test.YtnlimlboedohgaaGreatDoorBnB
import Derived.Test.YtnlimlboedohgaaGreatDoorPxS
import Derived.Test.YtnlimlboedohgaaGreatDoorPxO
import Derived.Test.YtnlimlboedohgaaGreatDoorBnA
/-
  Expressions that a call makes: where they lie; lists of them under construction.
-/
set_option maxHeartbeats 8000000
set_option maxRecDepth 100000
namespace Go.Proofs.YtnlimlboedohgaaGreatDoor.Px
open Go Go.RowKit Go.Proofs.YtnlimlboedohgaaGreatDoor.Ps
set_option linter.unusedVariables false
set_option linter.unusedSimpArgs false
/-- an expression that reads the same wherever the blocks from lo on, below hi, are as here -/
def XF (lo hi : Nat) (w : World) (x : X) (cs : List Value) : Prop := ∀ w' : World, (∀ b, lo <= b -> b < hi -> w'.heap[b]? = w.heap[b]?) -> XR w' x cs
theorem XF.now {lo hi : Nat} {w : World} {x : X} {cs : List Value} (h : XF lo hi w x cs) : XR w x cs := h w fun _ _ _ => rfl
theorem XF.same {lo hi lo' hi' : Nat} {w w' : World} {x : X} {cs : List Value} (h : XF lo hi w x cs) (hb : ∀ b, lo <= b -> b < hi -> w'.heap[b]? = w.heap[b]?) (h1 : lo' <= lo) (h2 : hi <= hi') : XF lo' hi' w' x cs := fun w2 h3 => h w2 fun b h4 h5 => (h3 b (by omega) (by omega)).trans (hb b h4 h5)
theorem XF.below {lo hi n : Nat} {w w' : World} {x : X} {cs : List Value} (h : XF lo hi w x cs) (hb : Below n w w') (hn : hi <= n) : XF lo hi w' x cs := h.same (fun b _ h2 => hb.block b (by omega)) (Nat.le_refl _) (Nat.le_refl _)
/-- the parts of a struct, one by one -/
def Parts (w : World) (cs : List Value) : List (TypeId × Nat × Nat) -> List C -> Prop
 | [], [] => True
 | p :: ts, x :: xs => Rp Tryz.prog w p.1 ((cs.drop p.2.1).take p.2.2) x /\ Parts w cs ts xs
 | _, _ => False
theorem Parts.at {w : World} {cs : List Value} : ∀ {ts : List (TypeId × Nat × Nat)} {xs : List C}, Parts w cs ts xs -> xs.length = ts.length /\ ∀ i (h1 : i < ts.length) (h2 : i < xs.length), Rp Tryz.prog w ts[i].1 ((cs.drop ts[i].2.1).take ts[i].2.2) xs[i]
 | [], [], _ => ⟨rfl, fun i h1 => absurd h1 (by simp)⟩
 | p :: ts, x :: xs, h => by
  obtain ⟨h1, h2⟩ := h
  obtain ⟨h3, h4⟩ := Parts.at h2
  refine ⟨by simp [h3], fun i k1 k2 => ?_⟩
  cases i with
  | zero => exact h1
  | succ i => exact h4 i (by simpa using k1) (by simpa using k2)
theorem rp_struct {w : World} {t : TypeId} {fs : Array Field} {cs : List Value} {xs : List C} {n : Nat} (ts : List (TypeId × Nat × Nat)) (h : Tryz.prog.underlying t = some (.struct fs)) (hz : Tryz.prog.cellsOf t = n) (hn : cs.length = n)
  (hts : fs.toList.map (fun f => (f.type, f.offset, Tryz.prog.cellsOf f.type)) = ts) (hcov : ∀ j, j < n -> ∃ i, ∃ h : i < ts.length, ts[i].2.1 <= j /\ j < ts[i].2.1 + ts[i].2.2) (hx : Parts w cs ts xs) : Rp Tryz.prog w t cs (.a xs) := by
 subst hts
 obtain ⟨hl, hx⟩ := hx.at
 have hsz : (fs.toList.map (fun f => (f.type, f.offset, Tryz.prog.cellsOf f.type))).length = fs.size := by simp
 refine Rp.struct h (hn.trans hz.symm) (hl.trans hsz) ?_ ?_
 ·intro j hj
  obtain ⟨i, hi, h1, h2⟩ := hcov j (by omega)
  refine ⟨i, by omega, ?_, ?_⟩
  ·simpa using h1
  ·simpa using h2
 ·intro i h1 h2
  have := hx i (by omega) h2
  simpa using this
def tsValue : List (TypeId × Nat × Nat) := [(3, 0, 1), (3, 1, 1), (9, 2, 1)]
def tsExpr : List (TypeId × Nat × Nat) := [(3, 0, 1), (3, 1, 1), (29, 2, 3), (9, 5, 1), (25, 6, 1)]
theorem cov_Value : ∀ j, j < 3 -> ∃ i, ∃ h : i < tsValue.length, tsValue[i].2.1 <= j /\ j < tsValue[i].2.1 + tsValue[i].2.2
 | 0, _ => ⟨0, by decide, by decide, by decide⟩
 | 1, _ => ⟨1, by decide, by decide, by decide⟩
 | 2, _ => ⟨2, by decide, by decide, by decide⟩
 | j + 3, h => absurd h (by omega)
theorem cov_Expr : ∀ j, j < 7 -> ∃ i, ∃ h : i < tsExpr.length, tsExpr[i].2.1 <= j /\ j < tsExpr[i].2.1 + tsExpr[i].2.2
 | 0, _ => ⟨0, by decide, by decide, by decide⟩
 | 1, _ => ⟨1, by decide, by decide, by decide⟩
 | 2, _ => ⟨2, by decide, by decide, by decide⟩
 | 3, _ => ⟨2, by decide, by decide, by decide⟩
 | 4, _ => ⟨2, by decide, by decide, by decide⟩
 | 5, _ => ⟨3, by decide, by decide, by decide⟩
 | 6, _ => ⟨4, by decide, by decide, by decide⟩
 | j + 7, h => absurd h (by omega)
/-- an expression over a list of operands -/
theorem xr_node (w : World) (op int vk vi : Int) (vs nm : S) (l : List X) (v : Value) (h1 : vs.length <= maxLen) (h2 : nm.length <= maxLen) (hl : XL w l v) : XR w (.mk op int vk vi vs nm l) [.int .i64 op, .int .i64 int, .int .i64 vk, .int .i64 vi, strV vs, strV nm, v] := by
 have hv : Rp Tryz.prog w 29 [.int .i64 vk, .int .i64 vi, strV vs] (.a [.l (.int .i64 vk), .l (.int .i64 vi), .l (strV vs)]) :=
  rp_struct tsValue Tryz.underlying29 zc_Value rfl (by kernel_rfl) cov_Value ⟨Rp.int Tryz.underlying3, Rp.int Tryz.underlying3, Rp.string Tryz.underlying9 (by simpa [ByteArray.size] using h1), trivial⟩
 unfold XR
 rw [toC]
 exact rp_struct tsExpr Tryz.underlying31 zc_Expr rfl (by kernel_rfl) cov_Expr ⟨Rp.int Tryz.underlying3, Rp.int Tryz.underlying3, hv, Rp.string Tryz.underlying9 (by simpa [ByteArray.size] using h2), hl, trivial⟩
/-- an expression without operands is anywhere -/
theorem xr_leaf (w : World) (op int vk vi : Int) (vs nm : S) (h1 : vs.length <= maxLen) (h2 : nm.length <= maxLen) : XR w (.mk op int vk vi vs nm []) [.int .i64 op, .int .i64 int, .int .i64 vk, .int .i64 vi, strV vs, strV nm, .slice none 0 0] :=
 xr_node w op int vk vi vs nm [] _ h1 h2 (Rp.nil Tryz.underlying25)
/-- a list under construction: the row is the walk's own; each element reads the same wherever the blocks from B on, but for the row's, are as here -/
structure OwnX (B : Nat) (v : Value) (l : List X) (w : World) : Prop where
 row : ∃ css : List (List Value), css.length = l.length /\ (∀ c ∈ css, c.length = 7) /\ w.ownsRow B 31 7 v l.length css.flatten /\
  ∀ k (h1 : k < l.length) (h2 : k < css.length), ∀ w' : World, (∀ b, B <= b -> b < w.heap.size -> v.ownBlock ≠ some b -> w'.heap[b]? = w.heap[b]?) -> XR w' l[k] css[k]
theorem OwnX.nil (B : Nat) (w : World) : OwnX B (.slice none 0 0) [] w := ⟨[], rfl, (fun c hc => absurd hc (by simp)), World.ownsRow_nil _ _ _ _, (fun k h => absurd h (by simp))⟩
theorem OwnX.own {B : Nat} {v : Value} {l : List X} {w : World} (h : OwnX B v l w) : ∃ xs, w.ownsRow B 31 7 v l.length xs := by
 obtain ⟨css, _, _, h3, _⟩ := h.row
 exact ⟨_, h3⟩
theorem OwnX.below {B : Nat} {v : Value} {l : List X} {w w' : World} (h : OwnX B v l w) (hb : Below w.heap.size w w') : OwnX B v l w' := by
 obtain ⟨css, h1, h2, h3, h4⟩ := h.row
 exact ⟨css, h1, h2, kept_below h3 hb, fun k k1 k2 w2 hw2 => h4 k k1 k2 w2 fun b b1 b2 b3 => (hw2 b b1 (Nat.lt_of_lt_of_le b2 hb.size) b3).trans (hb.block b b2)⟩
theorem OwnX.snoc {B lo hi : Nat} {v v' : Value} {l : List X} {x : X} {cs : List Value} {w w' : World} {css : List (List Value)} (hl : css.length = l.length) (hc : ∀ c ∈ css, c.length = 7) (hcs : cs.length = 7)
  (he : ∀ k (h1 : k < l.length) (h2 : k < css.length), ∀ w' : World, (∀ b, B <= b -> b < w.heap.size -> v.ownBlock ≠ some b -> w'.heap[b]? = w.heap[b]?) -> XR w' l[k] css[k])
  (hx : XF lo hi w x cs) (hlo : B <= lo) (hhi : hi <= w.heap.size) (hv : ∀ g, v.ownBlock = some g -> g < lo \/ hi <= g)
  (hr : w'.ownsRow B 31 7 v' (l.length + 1) (css.flatten ++ cs)) (hg : w.grownBy w' v.ownBlock) (ha : v'.ownBlock = v.ownBlock \/ v'.ownBlock = some w.heap.size) : OwnX B v' (l ++ [x]) w' := by
 have keep : ∀ b, b < w.heap.size -> v.ownBlock ≠ some b -> w'.heap[b]? = w.heap[b]? := fun b h1 h2 => hg.block b h1 (fun e => h2 e.symm)
 have size : w.heap.size <= w'.heap.size := hg.size
 refine ⟨css ++ [cs], by simp [hl], fun c hc' => ?_, ?_, fun k k1 k2 w2 hw2 => ?_⟩
 ·rcases List.mem_append.1 hc' with h | h
  ·exact hc c h
  ·obtain rfl := List.mem_singleton.1 h; exact hcs
 ·rw [List.length_append, List.flatten_append]
  simpa using hr
 ·have hw3 : ∀ b, B <= b -> b < w.heap.size -> v.ownBlock ≠ some b -> w2.heap[b]? = w.heap[b]? := fun b b1 b2 b3 => (hw2 b b1 (by omega) (by
   rcases ha with h | h
   ·rw [h]; exact b3
   ·rw [h]; intro e; injection e with e; omega)).trans (keep b b2 b3)
  by_cases hk : k < l.length
  ·rw [List.getElem_append_left hk, List.getElem_append_left (by omega)]
   exact he k hk (by omega) w2 hw3
  ·have hk2 : k = l.length := by simp at k1; omega
   subst hk2
   rw [List.getElem_append_right (Nat.le_refl _), List.getElem_append_right (by omega)]
   simp only [hl, Nat.sub_self, List.getElem_singleton]
   exact hx w2 fun b b1 b2 => hw3 b (by omega) (by omega) (fun e => by have := hv b e; omega)
/-- a list that is done -/
theorem OwnX.done {B : Nat} {v : Value} {l : List X} {w : World} (h : OwnX B v l w) (hn : l.length <= 1000000) : (∃ a c, v = .slice a l.length c) /\ ∀ w' : World, (∀ b, B <= b -> b < w.heap.size -> w'.heap[b]? = w.heap[b]?) -> XL w' l v := by
 obtain ⟨css, h1, h2, h3, h4⟩ := h.row
 rcases h3.2 with ⟨rfl, h0⟩ | ⟨g, cap, cur, rfl, hg, hc, hcap, hm, hs, ht⟩
 ·have hl0 : l = [] := List.eq_nil_of_length_eq_zero h0
  subst hl0
  exact ⟨⟨_, _, rfl⟩, fun w' _ => Rp.nil Tryz.underlying25⟩
 ·refine ⟨⟨_, _, rfl⟩, fun w' hw' => ?_⟩
  have hlt : g < w.heap.size := (Array.getElem?_eq_some_iff.1 hc).1
  have hg' : w'.heap[g]? = some (.cells cur 31 (0, 0)) := (hw' g hg hlt).trans hc
  unfold XL
  refine Rp.slice (fun i => css.getD i []) Tryz.underlying25 hcap hm (by rw [toCs_map, List.length_map]) ?_ ?_ ?_
  ·rw [(by kernel_rfl : Tryz.prog.bytesOf 31 = 88)]
   unfold reachBytes
   omega
  ·intro i hi
   rw [zc_Expr]
   have hi2 : i < css.length := by omega
   rw [List.getD_eq_getElem?_getD, List.getElem?_eq_getElem hi2, Option.getD_some]
   have h7 := h2 _ (List.getElem_mem hi2)
   refine World.cells?_of_each (Nat.zero_le _) h7 fun j hj => ?_
   have e : ((⟨g, 0, none⟩ : Addr).add (i * 7)).add j = ⟨g, i * 7 + j, none⟩ := by rw [Addr.add_lit, Addr.add_lit]; simp
   rw [e, cell_of_row w' g (i * 7 + j) cur 31 (0, 0) hg']
   have hf : css.flatten[i * 7 + j]? = css[i][j]? := by
    have gen : ∀ (css : List (List Value)) (i : Nat) (hi : i < css.length), (∀ c ∈ css, c.length = 7) -> css.flatten[i * 7 + j]? = css[i][j]? := by
     intro css
     induction css with
     | nil => intro i hi; simp at hi
     | cons c css ih =>
      intro i hi hall
      have hc7 := hall c (by simp)
      cases i with
      | zero => rw [List.flatten_cons, List.getElem?_append_left (by omega)]; simp
      | succ i =>
       rw [List.flatten_cons, List.getElem?_append_right (by omega), hc7, show (i + 1) * 7 + j - 7 = i * 7 + j by omega, List.getElem_cons_succ]
       exact ih i (by simpa using hi) (fun c hc => hall c (List.mem_cons_of_mem _ hc))
    exact gen css i hi2 h2
   rw [<- hf, <- ht, List.getElem?_take, if_pos (by omega)]
   simp
  ·intro i hi
   have hi1 : i < l.length := by rw [toCs_map, List.length_map] at hi; exact hi
   have hi2 : i < css.length := by omega
   have e : (toCs l)[i] = toC l[i] := by simp [toCs_map]
   rw [e, List.getD_eq_getElem?_getD, List.getElem?_eq_getElem hi2, Option.getD_some]
   exact h4 i hi1 hi2 w' fun b b1 b2 _ => hw' b b1 b2
theorem pointB_any (s : ByteArray) (w : World) (hs : s.size <= 140737488351232) : Calls Tryz.prog 205 #[.string s] w (Ret w (.int .i64 (pointV s.data.toList))) := by
 go_enter Tryz.func205, Tryz.ntmps205
 go_wp2_with fail
 go_loop [3] (fun i => PtRel s i) (fun i => s.size - (intOf i).toNat)
 case atStart => exact ⟨0, Nat.zero_le _, rfl, fun j _ hj => absurd hj (by omega)⟩
 case round =>
  obtain ⟨k, hk, rfl, hi⟩ := hrel
  have HI := h_ hi
  clear hi
  by_cases hlt : k < s.size
  ·by_cases hc : s[k] = 46
   ·have HD := h_ (dot_first hlt HI.out hc)
    have hc2 : (s[k].toNat : Int) = 46 := by rw [hc]; rfl
    clear hc HI
    go_wp2_with fail
    go_ret
    exact ⟨by unfold pointV; rw [HD.out.1, HD.out.2]; rfl, Below.refl _ _⟩
   ·have hc2 := byte_ne hc
    have HIN : Hid (∀ j (h : j < s.size), j < k + 1 -> s[j] ≠ 46) := h_ (fun j hj hjk => by
     by_cases e : j = k
     ·subst e; exact hc
     ·exact HI.out j hj (by omega))
    clear hc
    go_wp2_with fail
    go_round
    case rel => exact ⟨k + 1, by omega, by go_num, HIN.out⟩
    case measure => simp [intOf]; omega
  ·obtain rfl : k = s.size := by omega
   have HD := h_ (dot_none fun j hj => HI.out j hj hj)
   clear HI
   go_wp2_with fail
   go_ret
   exact ⟨by unfold pointV; rw [HD.out]; rfl, Below.refl _ _⟩
theorem pointB_call (s : S) (w : World) (hs : s.length <= 140737488351232) : Calls Tryz.prog 205 #[.string ⟨s.toArray⟩] w (Ret w (.int .i64 (pointV s))) := by
 have := pointB_any ⟨s.toArray⟩ w (by rw [mkS]; exact hs)
 rwa [mkL] at this
def findV (cols : List Col) (s : S) : Int := match findN s (cols.map (·.nm)) 0 with | some i => (i : Int) | none => -1
theorem findN_yes {s : S} : ∀ {l : List S} {k i : Nat} (hk : k < l.length), (∀ j (hj : j < l.length), j < k -> l[j] ≠ s) -> l[k] = s -> findN s l i = some (i + k)
 | a :: l, 0, i, _, _, e => by
  have e : a = s := e
  unfold findN
  rw [if_pos e]
  rfl
 | a :: l, k + 1, i, hk, hn, e => by
  unfold findN
  rw [if_neg (show ¬ a = s from hn 0 (by simp) (by omega)), findN_yes (k := k) (by simpa using hk) (fun j hj hjk => hn (j + 1) (by simpa using hj) (by omega)) (by simpa using e)]
  congr 1
  omega
theorem findN_not {s : S} : ∀ {l : List S} {i : Nat}, (∀ j (hj : j < l.length), l[j] ≠ s) -> findN s l i = none
 | [], _, _ => rfl
 | a :: l, i, hn => by
  unfold findN
  rw [if_neg (show ¬ a = s from hn 0 (by simp)), findN_not (fun j hj => hn (j + 1) (by simpa using hj))]
theorem findV_yes {cols : List Col} {s : S} {k : Nat} (hk : k < cols.length) (hn : ∀ j (hj : j < cols.length), j < k -> cols[j].nm ≠ s) (e : cols[k].nm = s) : findV cols s = (k : Int) := by
 unfold findV
 rw [findN_yes (k := k) (i := 0) (by simpa using hk) (fun j hj hjk => by simpa using hn j (by simpa using hj) hjk) (by simpa using e)]
 simp
theorem findV_not {cols : List Col} {s : S} (hn : ∀ j (hj : j < cols.length), j < cols.length -> cols[j].nm ≠ s) : findV cols s = -1 := by
 unfold findV
 rw [findN_not (fun j hj => by
  have hj' : j < cols.length := by simpa using hj
  simpa using hn j hj' hj')]
theorem find13_call (L : List Col) (s tn : S) (a : Option Addr) (m : Nat) (v2 v3 v4 : Value) (w : World) (hn : L.length <= 1099511627776) (hl : CL w L (.slice a L.length m)) : Calls Tryz.prog 39 #[.agg #[.string ⟨tn.toArray⟩, .slice a L.length m, v2, v3, v4], .string ⟨s.toArray⟩] w (Ret w (.int .i64 (findV L s))) := by
 have HL := h_ hl
 clear hl
 go_enter Tryz.func39, Tryz.ntmps39
 go_upto_region 1 with (fail)
 refine nA fun w1 hB hw1 hz1 => ?_
 have HW := h_ hw1
 have p1 := hB.cell 1 rfl
 clear hB hw1 hz1
 go_upto_region 2 with (fail)
 go_loop [5] (fun i => ∃ k : Nat, k <= L.length /\ i = .int .i64 k /\ ∀ j (hj : j < L.length), j < k -> L[j].nm ≠ s) (fun i => L.length - (intOf i).toNat)
 case atStart => exact ⟨0, Nat.zero_le _, rfl, fun j _ h => absurd h (by omega)⟩
 case round =>
  obtain ⟨k, hk, rfl, hr⟩ := hrel
  by_cases hlt : k < L.length
  ·obtain ⟨g, o, rfl, hx, hc⟩ := HL.out.at_ hlt
   have c0 := hc.at0 HW.out rfl
   have k0 : (0 : Int) <= (k : Int) := by omega
   have k1 : (k : Int) < (L.length : Int) := by omega
   have HNO := h_ hr
   have HYES := h_ (fun h1 => findV_yes (s := s) hlt hr h1)
   clear hr hc
   generalize hnm : L[k].nm = nm at c0 HYES
   have HN := h_ hnm
   clear hnm
   by_cases hnt : nm = s
   ·have HC := h_ (HYES.out hnt)
    clear HYES HNO
    subst hnt
    go_wp2_with fail
    go_ret
    exact ⟨by rw [HC.out]; rfl, HW.out⟩
   ·have HC : Hid (∀ q (h : q < L.length), q < k + 1 -> L[q].nm ≠ s) := h_ (fun q h hq => by
     by_cases hqk : q < k
     ·exact HNO.out q h hqk
     ·obtain rfl : q = k := by omega
      rw [HN.out]; exact hnt)
    have d3 : (nm == s) = false := by simpa using hnt
    clear HYES HNO
    go_wp2_with fail
    go_round
    case rel => exact ⟨k + 1, by omega, by go_num, HC.out⟩
    case measure => simp [intOf]; omega
  ·obtain rfl : k = L.length := by omega
   have HF := h_ (findV_not hr)
   have d1 : decide ((L.length : Int) < (L.length : Int)) = false := decide_eq_false (by omega)
   clear hr
   go_wp2_with fail
   go_ret
   exact ⟨by rw [HF.out]; rfl, HW.out⟩
def kindsC (L : List Col) : List Int := L.map (·.kind)
theorem kindsC_take {L : List Col} {k : Nat} (h : k < L.length) : kindsC (L.take (k + 1)) = kindsC (L.take k) ++ [L[k].kind] := by
 unfold kindsC
 rw [List.take_succ_eq_append_getElem h, List.map_append]
 rfl
theorem kindsC_len (L : List Col) : (kindsC L).length = L.length := by simp [kindsC]
theorem own_form2 {B : Nat} {v : Value} {M : List Int} {w : World} (h : OwnI B v M w) (hb : ∃ g, v.ownBlock = some g) : ∃ g c, v = .slice (some ⟨g, 0, none⟩) M.length c := by
 rcases h.2 with ⟨rfl, h0⟩ | ⟨g, cap, cur, rfl, _⟩
 ·obtain ⟨g, hg⟩ := hb
  cases hg
 ·exact ⟨g, cap, rfl⟩
theorem kinds13_call (L : List Col) (tn : S) (a : Option Addr) (m : Nat) (v2 v3 v4 : Value) (w : World) (hn : L.length <= 1000000) (hl : CL w L (.slice a L.length m)) : Calls Tryz.prog 57 #[.agg #[.string ⟨tn.toArray⟩, .slice a L.length m, v2, v3, v4]] w fun e w' => ∃ g c, e = .returned (.slice (some ⟨g, 0, none⟩) L.length c) /\ OwnI w.heap.size (.slice (some ⟨g, 0, none⟩) L.length c) (kindsC L) w' /\ Below w.heap.size w w' := by
 obtain ⟨i0, hi0, hz0, hz1, hz2⟩ := info_parts infoInt
 have HL := h_ hl
 clear hl
 go_enter Tryz.func57, Tryz.ntmps57
 go_upto_region 1 with (fail)
 refine nA fun w1 hB hw1 hz1' => ?_
 have HW := h_ hw1
 have HB := h_ hB
 clear hB hw1 hz1'
 go_upto_region 2 with (fail)
 refine name_rowI (K := Code.wp _ _ _ _) (B := w1.heap.size) (n := 0) (Nat.le_refl _) (by decide) rfl fun w2 hO2 hw2 => ?_
 have HO0 : Hid (OwnI w1.heap.size (.slice (some ⟨w1.heap.size, 0, none⟩) 0 0) [] w2) := h_ hO2
 have HB0 := h_ hw2
 clear hO2 hw2
 go_upto_region 3 with (fail)
 go_loopw [3, 4] (fun v i wr => ∃ (k : Nat), k <= L.length /\ i = .int .i64 (k : Int) /\ (∃ g, v.ownBlock = some g) /\ OwnI w1.heap.size v (kindsC (L.take k)) wr /\ Below w1.heap.size w1 wr) (fun _ i _ => L.length - (intOf i).toNat)
 case atStart => exact ⟨0, Nat.zero_le _, rfl, ⟨_, rfl⟩, HO0.out, HB0.out⟩
 case round =>
  obtain ⟨k, hk, rfl, hob, ho, hb⟩ := hrel
  have HOB := h_ hob
  have HO := h_ ho
  have HB1 := h_ hb
  have HWb := t_ HW hb
  have hlt2 : ∀ g, u3.ownBlock = some g -> w1.heap.size <= g := fun g e => (ho.lt g e).1
  have p1 := (HB.out.below hb).cell 1 rfl
  clear hob ho hb HO0 HB0
  by_cases hlt : k < L.length
  ·obtain ⟨g, o, rfl, hx, hc⟩ := HL.out.at_ hlt
   have c0 := hc.at0 HWb.out rfl
   have c1 := hc.at_ HWb.out (j := 1) rfl
   have c2 := hc.at_ HWb.out (j := 2) rfl
   have k0 : (0 : Int) <= (k : Int) := by omega
   have k1 : (k : Int) < (L.length : Int) := by omega
   have HK := h_ (kindsC_take hlt)
   have hml : (kindsC (L.take k)).length <= 1000000 := by rw [kindsC_len, List.length_take]; omega
   clear hc
   generalize kindsC (L.take k) = m2 at HK HO hml
   generalize L[k].kind = q1 at c1 HK
   generalize L[k].nm = nm at c0
   generalize L[k].nul = nl at c2
   go_wp2_with (at_builtin; refine wpList_append_own_at _ rfl (.tmp 13) (.tmp 20) 23 rfl w1.heap.size 3 i0 _ 1 8 Tryz.underlying23 hi0 hz0 hz1 hz2 rfl (by omega) u3 m2.length _ rfl (World.ownsRow.alloc HO.out _) ⟨wr.heap.size, 0, none⟩ 1 1 [.int .i64 q1] rfl rfl (cell_lit1 _ _ _) (fun u hu => by obtain rfl := List.mem_singleton.1 hu; rfl) (by unfold maxLen; omega) (by omega) (Nat.le_trans HB1.out.size (by simp)) ?_)
   intro v3' w5 hown3 hg3 _ hat3
   have hb5 : Below w1.heap.size w1 w5 := (HB1.out.alloc HB1.out.size _).grown hg3 (Nat.le_trans HB1.out.size (by simp)) hlt2
   have HO3 : Hid (OwnI w1.heap.size v3' (m2 ++ [q1]) w5) := h_ (OwnI.snoc hown3)
   have HOB2 : Hid (∃ g, v3'.ownBlock = some g) := h_ (by
    rcases hat3 with e | e
    ·rw [e]; exact HOB.out
    ·exact ⟨_, e⟩)
   clear hown3 hg3 hat3
   go_wp2_with fail
   go_roundw
   case rel => exact ⟨k + 1, by omega, by go_num, HOB2.out, by rw [HK.out]; exact HO3.out, hb5⟩
   case measure => simp [intOf]; omega
  ·obtain rfl : k = L.length := by omega
   have d1 : decide ((L.length : Int) < (L.length : Int)) = false := decide_eq_false (by omega)
   have HF : Hid (OwnI w1.heap.size u3 (kindsC L) wr) := h_ (by have := HO.out; rwa [List.take_length] at this)
   obtain ⟨g, c, ev⟩ := own_form2 HF.out HOB.out
   rw [kindsC_len] at ev
   subst ev
   clear HO HOB
   go_wp2_with fail
   go_ret
   exact ⟨g, c, rfl, own_base HF.out HW.out.size, HWb.out⟩
theorem name_alloc3 {K : World -> Prop} {w : World} {cs1 cs2 cs3 : List Value} {t1 t2 t3 : TypeId} (h : ∀ w', Blk w' w.heap.size cs1 t1 -> Blk w' (w.heap.size + 1) cs2 t2 -> Blk w' (w.heap.size + 1 + 1) cs3 t3 -> Below w.heap.size w w' -> w'.heap.size = w.heap.size + 1 + 1 + 1 -> K w') : K (((w.alloc (.cells cs1.toArray t1)).alloc (.cells cs2.toArray t2)).alloc (.cells cs3.toArray t3)) := by
 have e2 := Blk.new (w.alloc (.cells cs1.toArray t1)) cs2 t2
 have e3 := Blk.new ((w.alloc (.cells cs1.toArray t1)).alloc (.cells cs2.toArray t2)) cs3 t3
 have s1 : ∀ (w : World) (o : Obj), (w.alloc o).heap.size = w.heap.size + 1 := fun w o => by simp
 rw [s1] at e2
 rw [s1, s1] at e3
 exact h _ (((Blk.new w cs1 t1).alloc _).alloc _) (e2.alloc _) e3 ((((Below.refl _ _).alloc (Nat.le_refl _) _).alloc (by simp) _).alloc (by simp; omega) _) (by simp)
theorem name_setT {w : World} {g k : Nat} {u : Value} {cs : List Value} {t : TypeId} {K : World -> Prop} (hb : Blk w g cs t) (h : ∀ w', Blk w' g (cs.set k u) t -> Below g w w' -> w'.heap.size = w.heap.size -> (∀ i, i ≠ g -> w'.heap[i]? = w.heap[i]?) -> K w') : K (w.setCell ⟨g, k, none⟩ u) :=
 h _ (hb.set k u) ⟨rfl, rfl, rfl, by simp [World.setCell], fun i hi => Below.heap_setCell w _ u i (by show i ≠ g; omega)⟩ (by simp [World.setCell]) fun i hi => Below.heap_setCell w _ u i hi
theorem EC.same {w w' : World} {g o : Nat} {cs : List Value} (h : EC w g o cs) (hb : w'.heap[g]? = w.heap[g]?) (hs : w.heap.size <= w'.heap.size) : EC w' g o cs :=
 ⟨Nat.lt_of_lt_of_le h.1 hs, fun j u hj => by rw [<- h.2 j u hj]; exact World.cell?_of_block hb⟩
theorem OwnI.same {B : Nat} {v : Value} {M : List Int} {w w' : World} (h : OwnI B v M w) (hb : ∀ i, B <= i -> w'.heap[i]? = w.heap[i]?) : OwnI B v M w' := by
 refine ⟨h.1, ?_⟩
 rcases h.2 with h0 | ⟨g, cap, cur, e, hg, hc, r⟩
 ·exact .inl h0
 ·exact .inr ⟨g, cap, cur, e, hg, (hb g hg).trans hc, r⟩
theorem results_cell_tmp {fn : Func} {p q : Tmp} {ty : TypeId} (h : fn.results = #[.cell p ty, .tmp q]) (tmps : Array Value) (w : World) (g : Nat) (t : TypeId) (cs : Array Value) (fr : Nat × Nat) (fs : Array Field) (v : Value)
  (hp : tmps.getD p undef = .pointer (some ⟨g, 0, none⟩)) (hq : tmps.getD q undef = v) (hg : w.heap[g]? = some (.cells cs t fr))
  (hu : Tryz.prog.underlying ty = some (.struct fs)) (hi : (Tryz.prog.info? ty).map (·.size) = some cs.size) :
  (results fn tmps).run Tryz.prog w = .ok (.tuple #[.agg cs, v]) w := by
 have hp' : tmps[p]?.getD undef = .pointer (some ⟨g, 0, none⟩) := by simpa using hp
 have hq' : tmps[q]?.getD undef = v := by simpa using hq
 simp [results, h, hp', hq', asAddr, run_loadVar_row w g t ty cs fr (.struct fs) hg hu rfl hi]
theorem results_cell_tmp2 {fn : Func} {p q r : Tmp} {ty : TypeId} (h : fn.results = #[.cell p ty, .tmp q, .tmp r]) (tmps : Array Value) (w : World) (g : Nat) (t : TypeId) (cs : Array Value) (fr : Nat × Nat) (fs : Array Field) (v u : Value)
  (hp : tmps.getD p undef = .pointer (some ⟨g, 0, none⟩)) (hq : tmps.getD q undef = v) (hr : tmps.getD r undef = u) (hg : w.heap[g]? = some (.cells cs t fr))
  (hu : Tryz.prog.underlying ty = some (.struct fs)) (hi : (Tryz.prog.info? ty).map (·.size) = some cs.size) :
  (results fn tmps).run Tryz.prog w = .ok (.tuple #[.agg cs, v, u]) w := by
 have hp' : tmps[p]?.getD undef = .pointer (some ⟨g, 0, none⟩) := by simpa using hp
 have hq' : tmps[q]?.getD undef = v := by simpa using hq
 have hr' : tmps[r]?.getD undef = u := by simpa using hr
 simp [results, h, hp', hq', hr', asAddr, run_loadVar_row w g t ty cs fr (.struct fs) hg hu rfl hi]
/-- a block is written, nothing else -/
structure Wr (w : World) (g : Nat) (cs : List Value) (t : TypeId) (w' : World) : Prop where
 blk : Blk w' g cs t
 low : Below g w w'
 size : w'.heap.size = w.heap.size
 far : ∀ i, i ≠ g -> w'.heap[i]? = w.heap[i]?
theorem Wr.start {w : World} {g : Nat} {cs : List Value} {t : TypeId} (h : Blk w g cs t) : Wr w g cs t w := ⟨h, Below.refl _ _, rfl, fun _ _ => rfl⟩
theorem Wr.set {w w' : World} {g : Nat} {cs : List Value} {t : TypeId} (h : Wr w g cs t w') (k : Nat) (u : Value) : Wr w g (cs.set k u) t (w'.setCell ⟨g, k, none⟩ u) :=
 name_setT (K := fun w2 => Wr w g (cs.set k u) t w2) h.blk fun w2 h1 h2 h3 h4 => ⟨h1, h.low.trans h2, h3.trans h.size, fun i hi => (h4 i hi).trans (h.far i hi)⟩
theorem name_set7 {w : World} {g : Nat} {u0 u1 u2 u3 u4 u5 u6 c0 c1 c2 c3 c4 c5 c6 : Value} {t : TypeId} {K : World -> Prop} (hb : Blk w g [c0, c1, c2, c3, c4, c5, c6] t) (h : ∀ w', Wr w g [u0, u1, u2, u3, u4, u5, u6] t w' -> K w') :
  K (((((((w.setCell ⟨g, 0, none⟩ u0).setCell ⟨g, 1, none⟩ u1).setCell ⟨g, 2, none⟩ u2).setCell ⟨g, 3, none⟩ u3).setCell ⟨g, 4, none⟩ u4).setCell ⟨g, 5, none⟩ u5).setCell ⟨g, 6, none⟩ u6) :=
 h _ (((((((Wr.start hb).set 0 u0).set 1 u1).set 2 u2).set 3 u3).set 4 u4).set 5 u5 |>.set 6 u6)
def zeroV : Value := .agg #[.int .i64 0, .int .i64 0, .int .i64 0, .int .i64 0, .string ⟨#[]⟩, .string ⟨#[]⟩, .slice none 0 0]
theorem column20_call (i : Int) (w : World) : Calls Tryz.prog 38 #[.int .i64 i] w (Ret w (.agg #[.int .i64 2, .int .i64 i, .int .i64 0, .int .i64 0, .string ⟨#[]⟩, .string ⟨#[]⟩, .slice none 0 0])) := by
 go_enter Tryz.func38, Tryz.ntmps38
 go_wp2_with fail
 exact bodyPost_ret (results_cell_row Tryz.results38 _ _ w.heap.size _ _ (0, 0) _ rfl (heap_alloc_new w _) Tryz.underlying31 rfl (by kernel_rfl)) rfl ⟨rfl, below1 w _⟩
theorem bound20_none (s : S) (i : Int) (a1 a2 : Option Addr) (n1 c1 n2 c2 : Nat) (w : World) : Calls Tryz.prog 121 #[.agg #[.int .i64 0, .slice a1 n1 c1, .slice a2 n2 c2], .string ⟨s.toArray⟩, .int .i64 i] w (Ret w (.tuple #[zeroV, .int .i64 15])) := by
 go_enter Tryz.func121, Tryz.ntmps121
 go_upto_region 1 with (fail)
 refine nB fun w1 hB0 hB1 hw1 hsz => ?_
 have p0 := hB0.cell 0 rfl
 obtain ⟨q0, q1, q2, q3, q4, q5, q6, f0, f1, f2, f3, f4, f5, f6⟩ := hB1.f7
 go_wp2_with fail
 refine name_set7 (K := fun w' => bodyPost _ _ _ _ _ w') hB1 fun w2 hM => ?_
 exact bodyPost_ret (results_cell_tmp Tryz.results121 _ _ (w.heap.size + 1) _ _ (0, 0) _ _ rfl rfl hM.blk Tryz.underlying31 (by kernel_rfl)) rfl ⟨rfl, hw1.trans (hM.low.mono (by omega))⟩
theorem resRs_take {tn : Option S} {cols : List S} {l : List X} {k : Nat} {m : List X} (h : k < l.length) (h1 : resRs tn cols (l.take k) = .inl m) : resRs tn cols (l.take (k + 1)) = match resR tn cols l[k] with | .ok y => .inl (m ++ [y]) | .no e => .inr e := by
 induction l generalizing k m with
 | nil => simp at h
 | cons x l ih =>
  cases k with
  | zero =>
   simp only [List.take_zero, resRs] at h1
   injection h1 with h1
   subst h1
   simp only [List.take_succ_cons, List.take_zero, resRs, List.getElem_cons_zero, List.nil_append]
   cases resR tn cols x <;> rfl
  | succ k =>
   rw [List.take_succ_cons, resRs] at h1
   rw [List.take_succ_cons, resRs, List.getElem_cons_succ]
   cases hx : resR tn cols x with
   | no e => rw [hx] at h1; cases h1
   | ok y =>
    rw [hx] at h1
    simp only at h1 |-
    cases hk : resRs tn cols (l.take k) with
    | inr e => rw [hk] at h1; cases h1
    | inl m' =>
     rw [hk] at h1
     injection h1 with h1
     subst h1
     rw [ih (by simpa using h) hk]
     have hkl : k < l.length := by simpa using h
     cases resR tn cols (l[k]'hkl) <;> rfl
theorem resRs_bad {tn : Option S} {cols : List S} {l : List X} {k : Nat} {m : List X} {e : Int} (h : k < l.length) (h1 : resRs tn cols (l.take k) = .inl m) (h2 : resR tn cols l[k] = .no e) : resRs tn cols l = .inr e := by
 induction l generalizing k m with
 | nil => simp at h
 | cons x l ih =>
  cases k with
  | zero =>
   rw [List.getElem_cons_zero] at h2
   rw [resRs, h2]
  | succ k =>
   rw [List.take_succ_cons, resRs] at h1
   rw [List.getElem_cons_succ] at h2
   rw [resRs]
   cases hx : resR tn cols x with
   | no e => rw [hx] at h1; cases h1
   | ok y =>
    rw [hx] at h1
    simp only at h1 |-
    cases hk : resRs tn cols (l.take k) with
    | inr e => rw [hk] at h1; cases h1
    | inl m' => rw [ih (by simpa using h) hk h2]
theorem resRs_len {tn : Option S} {cols : List S} : ∀ {l m : List X}, resRs tn cols l = .inl m -> m.length = l.length
 | [], m, h => by rw [resRs] at h; injection h with h; subst h; rfl
 | x :: l, m, h => by
  rw [resRs] at h
  cases hx : resR tn cols x with
  | no e => rw [hx] at h; cases h
  | ok y =>
   rw [hx] at h
   simp only at h
   cases hk : resRs tn cols l with
   | inr e => rw [hk] at h; cases h
   | inl m' =>
    rw [hk] at h
    injection h with h
    subst h
    rw [List.length_cons, List.length_cons, resRs_len hk]
mutual
theorem resR_no {tn : Option S} {cols : List S} : ∀ {x : X} {e : Int}, resR tn cols x = .no e -> e = 11 \/ e = 15
 | .mk op int vk vi vs nm l, e, h => by
  unfold resR at h
  split at h
  ·unfold nameR at h
   simp only at h
   split at h
   ·cases h
   ·injection h with h; exact .inl h.symm
  ·split at h
   ·injection h with h; exact .inr h.symm
   ·split at h
    ·split at h
     ·cases h
     ·injection h with h; exact .inr h.symm
    ·cases hl : resRs tn cols l with
     | inl m => rw [hl] at h; cases h
     | inr q => rw [hl] at h; injection h with h; subst h; exact resRs_no hl
theorem resRs_no {tn : Option S} {cols : List S} : ∀ {l : List X} {e : Int}, resRs tn cols l = .inr e -> e = 11 \/ e = 15
 | [], e, h => by unfold resRs at h; cases h
 | x :: l, e, h => by
  unfold resRs at h
  cases hx : resR tn cols x with
  | no q => rw [hx] at h; injection h with h; subst h; exact resR_no hx
  | ok y =>
   rw [hx] at h
   simp only at h
   cases hl : resRs tn cols l with
   | inl m => rw [hl] at h; cases h
   | inr q => rw [hl] at h; injection h with h; subst h; exact resRs_no hl
end
/-- an expression's cells -/
def xc : X -> Option Addr -> Nat -> List Value
 | .mk op int vk vi vs nm l, a, m => [.int .i64 op, .int .i64 int, .int .i64 vk, .int .i64 vi, .string ⟨vs.toArray⟩, .string ⟨nm.toArray⟩, .slice a l.length m]
/-- what a call that makes an expression, or fails, returns -/
def RepPost (w : World) (r : RX) (e : Ending) (w' : World) : Prop :=
 (match r with
  | .ok y => ∃ a m, e = .returned (.tuple #[.agg (xc y a m).toArray, .int .i64 0]) /\ XF w.heap.size w'.heap.size w' y (xc y a m)
  | .no q => e = .returned (.tuple #[zeroV, .int .i64 q])) /\ Below w.heap.size w w'
theorem RepPost.leaf {w w' : World} {e : Ending} {op int vk vi : Int} {vs nm : S} (h1 : vs.length <= maxLen) (h2 : nm.length <= maxLen) (h : Ret w (.tuple #[.agg #[.int .i64 op, .int .i64 int, .int .i64 vk, .int .i64 vi, .string ⟨vs.toArray⟩, .string ⟨nm.toArray⟩, .slice none 0 0], .int .i64 0]) e w') : RepPost w (.ok (.mk op int vk vi vs nm [])) e w' :=
 ⟨⟨none, 0, h.1, fun w2 _ => xr_leaf w2 op int vk vi vs nm h1 h2⟩, h.2⟩
theorem RepPost.fail {w w' : World} {e : Ending} {q : Int} (h : Ret w (.tuple #[zeroV, .int .i64 q]) e w') : RepPost w (.no q) e w' := ⟨h.1, h.2⟩
def repT (v : Int) : Value := if v < 0 then .tuple #[zeroV, .int .i64 11] else .tuple #[.agg #[.int .i64 2, .int .i64 v, .int .i64 0, .int .i64 0, .string ⟨#[]⟩, .string ⟨#[]⟩, .slice none 0 0], .int .i64 0]
theorem RepPost.name {w w' : World} {e : Ending} {V : Int} (h : Ret w (repT V) e w') : RepPost w (if V < 0 then .no 11 else .ok (colX V)) e w' := by
 unfold repT at h
 by_cases hv : V < 0
 ·rw [if_pos hv] at h |-; exact RepPost.fail h
 ·rw [if_neg hv] at h |-; exact RepPost.leaf (by decide) (by decide) h
theorem below_drew {n : Nat} {w w' : World} (h : Below n w w') : Below n w w'.drew := ⟨h.os, h.tape, h.output, h.size, h.block⟩
theorem below_undrew {n : Nat} {w w' : World} (h : Below n w.drew w') : Below n w w' := ⟨h.os, h.tape, h.output, h.size, h.block⟩
theorem infoExpr : (Tryz.prog.info? 31).map (fun i => (i.zero, i.size, i.bytes)) = some (some zeroV, 7, 88) := by kernel_rfl
def nodeR (op int vk vi : Int) (vs nm : S) (r : List X ⊕ Int) : RX := match r with | .inl l' => .ok (.mk op int vk vi vs nm l') | .inr e => .no e
def bindR (ks : List Int) : RX -> (X × Int) ⊕ Int
 | .no e => .inr e
 | .ok y => if (chk ks y).2 = 0 then .inl (y, (chk ks y).1) else .inr (chk ks y).2
def BindPost (w : World) (r : (X × Int) ⊕ Int) (e : Ending) (w' : World) : Prop :=
 (match r with
  | .inl (y, k) => ∃ a m, e = .returned (.tuple #[.agg (xc y a m).toArray, .int .i64 k, .int .i64 0]) /\ XF w.heap.size w'.heap.size w' y (xc y a m)
  | .inr q => e = .returned (.tuple #[zeroV, .int .i64 0, .int .i64 q])) /\ Below w.heap.size w w'
theorem nodes_col (i : Int) : nodes (colX i) = 1 := rfl
mutual
theorem resR_nodes {tn : Option S} {cols : List S} : ∀ {x y : X}, resR tn cols x = .ok y -> nodes y <= nodes x
 | .mk op int vk vi vs nm l, y, h => by
  unfold resR at h
  split at h
  ·unfold nameR at h
   simp only at h
   split at h
   ·injection h with h; subst h; rw [nodes_col]; exact nodes_pos _
   ·cases h
  ·split at h
   ·cases h
   ·split at h
    ·split at h
     ·injection h with h; subst h; have := nodes_pos (.mk op int vk vi vs nm l); simp only [nodes, nodesL] at *; omega
     ·cases h
    ·cases hl : resRs tn cols l with
     | inl m =>
      rw [hl] at h; injection h with h; subst h
      have := resRs_nodes hl
      simp only [nodes]
      omega
     | inr q => rw [hl] at h; cases h
theorem resRs_nodes {tn : Option S} {cols : List S} : ∀ {l m : List X}, resRs tn cols l = .inl m -> nodesL m <= nodesL l
 | [], m, h => by unfold resRs at h; injection h with h; subst h; exact Nat.le_refl _
 | x :: l, m, h => by
  unfold resRs at h
  cases hx : resR tn cols x with
  | no q => rw [hx] at h; cases h
  | ok y =>
   rw [hx] at h
   simp only at h
   cases hl : resRs tn cols l with
   | inr q => rw [hl] at h; cases h
   | inl m' =>
    rw [hl] at h
    injection h with h
    subst h
    have := resR_nodes hx
    have := resRs_nodes hl
    simp only [nodesL]
    omega
end
mutual
theorem resR_short {tn : Option S} {cols : List S} : ∀ {x y : X}, resR tn cols x = .ok y -> shortX x -> shortX y
 | .mk op int vk vi vs nm l, y, h, hs => by
  unfold resR at h
  split at h
  ·unfold nameR at h
   simp only at h
   split at h
   ·injection h with h; subst h; simp [colX, shortX, shortL]
   ·cases h
  ·split at h
   ·cases h
   ·split at h
    ·split at h
     ·injection h with h; subst h; simp [shortX, shortL]
     ·cases h
    ·cases hl : resRs tn cols l with
     | inl m =>
      rw [hl] at h; injection h with h; subst h
      rw [shortX] at hs |-
      exact ⟨hs.1, resRs_short hl hs.2⟩
     | inr q => rw [hl] at h; cases h
theorem resRs_short {tn : Option S} {cols : List S} : ∀ {l m : List X}, resRs tn cols l = .inl m -> shortL l -> shortL m
 | [], m, h, hs => by unfold resRs at h; injection h with h; subst h; exact hs
 | x :: l, m, h, hs => by
  unfold resRs at h
  cases hx : resR tn cols x with
  | no q => rw [hx] at h; cases h
  | ok y =>
   rw [hx] at h
   simp only at h
   cases hl : resRs tn cols l with
   | inr q => rw [hl] at h; cases h
   | inl m' =>
    rw [hl] at h
    injection h with h
    subst h
    rw [shortL] at hs |-
    exact ⟨resR_short hx hs.1, resRs_short hl hs.2⟩
end
def resT (v : Int) : Value := if v < 0 then .tuple #[.int .i64 0, .int .i64 11] else .tuple #[.int .i64 v, .int .i64 0]
theorem OwnX.same {B : Nat} {v : Value} {l : List X} {w w' : World} (h : OwnX B v l w) (hb : ∀ b, B <= b -> w'.heap[b]? = w.heap[b]?) (hs : w'.heap.size = w.heap.size) : OwnX B v l w' := by
 obtain ⟨css, h1, h2, h3, h4⟩ := h.row
 refine ⟨css, h1, h2, ⟨h3.1, ?_⟩, fun k k1 k2 w2 hw2 => h4 k k1 k2 w2 fun b b1 b2 b3 => (hw2 b b1 (by omega) b3).trans (hb b b1)⟩
 rcases h3.2 with h0 | ⟨g, cap, cur, e, hg, hc, r⟩
 ·exact .inl h0
 ·exact .inr ⟨g, cap, cur, e, hg, (hb g hg).trans hc, r⟩
theorem OwnX.lt {B : Nat} {v : Value} {l : List X} {w : World} (h : OwnX B v l w) : ∀ g, v.ownBlock = some g -> B <= g /\ g < w.heap.size := by
 obtain ⟨css, _, _, h3, _⟩ := h.row
 exact h3.lt
theorem resR_node {tn : Option S} {cols : List S} {op int vk vi : Int} {vs nm : S} {l : List X} (h1 : ¬ op = 3) (h2 : ¬ op = 26) (h3 : ¬ op = 25) : resR tn cols (.mk op int vk vi vs nm l) = nodeR op int vk vi vs nm (resRs tn cols l) := by
 unfold resR
 rw [if_neg h1, if_neg h2, if_neg h3]
 cases resRs tn cols l <;> rfl
theorem resR_name {tn : Option S} {cols : List S} {int vk vi : Int} {vs nm : S} {l : List X} : resR tn cols (.mk 3 int vk vi vs nm l) = nameR tn cols nm := by
 unfold resR
 rw [if_pos rfl]
theorem resR_bound {tn : Option S} {cols : List S} {int vk vi : Int} {vs nm : S} {l : List X} : resR tn cols (.mk 26 int vk vi vs nm l) = .no 15 := by
 unfold resR
 rw [if_neg (by decide), if_pos rfl]
theorem resR_rel {tn : Option S} {cols : List S} {int vk vi : Int} {vs nm : S} {l : List X} : resR tn cols (.mk 25 int vk vi vs nm l) = if l.isEmpty then .ok (.mk 24 int 0 0 [] [] []) else .no 15 := by
 unfold resR
 rw [if_neg (by decide), if_neg (by decide), if_pos rfl]
theorem nodes_le {x : X} {l : List X} (h : x ∈ l) : nodes x <= nodesL l := by
 induction l with
 | nil => cases h
 | cons y l ih =>
  rw [nodesL]
  rcases List.mem_cons.1 h with rfl | h
  ·omega
  ·have := ih h; omega
theorem len_nodes : ∀ l : List X, l.length <= nodesL l
 | [] => Nat.le_refl _
 | x :: l => by
  have := nodes_pos x
  have := len_nodes l
  rw [nodesL, List.length_cons]
  omega
theorem resR_facts {tn : Option S} {cols : List S} {x : X} (hn : nodes x <= 1000000) (hs : shortX x) : (∀ y, resR tn cols x = .ok y -> nodes y <= 1000000 /\ shortX y) /\ ∀ q, resR tn cols x = .no q -> q ≠ 0 :=
 ⟨fun y h => ⟨Nat.le_trans (resR_nodes h) hn, resR_short h hs⟩, fun q h => by rcases resR_no h with e | e <;> omega⟩
theorem bindR_ne {ks : List Int} {r : RX} (hr : ∀ q, r = .no q -> q ≠ 0) : ∀ q, bindR ks r = .inr q -> q ≠ 0 := fun q h => by
 cases r with
 | no e =>
  simp only [bindR] at h
  injection h with h
  subst h
  exact hr _ rfl
 | ok y =>
  simp only [bindR] at h
  split at h
  ·cases h
  ·rename_i hne
   injection h with h
   subst h
   exact hne
theorem related20_nil (op int vk vi : Int) (vs nm : S) (a1 a2 a3 : Option Addr) (n1 c1 n2 c2 c3 : Nat) (w : World) : Calls Tryz.prog 122 #[.agg #[.int .i64 0, .slice a1 n1 c1, .slice a2 n2 c2], .agg #[.int .i64 op, .int .i64 int, .int .i64 vk, .int .i64 vi, .string ⟨vs.toArray⟩, .string ⟨nm.toArray⟩, .slice a3 0 c3]] w (Ret w (.tuple #[.agg #[.int .i64 24, .int .i64 int, .int .i64 0, .int .i64 0, .string ⟨#[]⟩, .string ⟨#[]⟩, .slice none 0 0], .int .i64 0])) := by
 go_enter Tryz.func122, Tryz.ntmps122
 go_upto_region 1 with (fail)
 refine name_alloc3 (K := Code.wp _ _ _ _) fun w1 hB0 hB1 hB2 hw1 hsz => ?_
 have HB1 := h_ hB1
 have HB2 := h_ hB2
 have HW1 := h_ hw1
 have p1 := hB1.cell 1 rfl
 clear hB0 hB1 hB2 hw1
 go_upto_region 2 with (fail)
 refine nA fun w2 hB3 hw2 hsz2 => ?_
 rw [hsz] at hB3
 have HB3 := h_ hB3
 have HC1 := h_ (HB1.out.below hw2)
 have HC2 := h_ (HB2.out.below hw2)
 have HW2 := t_ HW1 hw2
 clear hB3 hw2 hsz2 HB1 HB2 HW1 p1
 go_upto_region 3 with (fail)
 go_loopw [7] (fun i wr => i = .int .i64 0 /\ wr = w2) (fun _ _ => 0)
 case atStart => exact ⟨rfl, rfl⟩
 case round =>
  obtain ⟨rfl, rfl⟩ := hrel
  have p6 := HC1.out.cell 6 rfl
  obtain ⟨q0, q1, q2, q3, q4, q5, q6⟩ := HB3.out.c7
  obtain ⟨r0, r1, r2, r3, r4, r5, r6, f0, f1, f2, f3, f4, f5, f6⟩ := HC2.out.f7
  go_wp2_with fail
  refine name_set7 (K := fun w' => bodyPost _ _ _ _ _ w') HC2.out fun w3 hM => ?_
  exact bodyPost_ret (results_cell_tmp Tryz.results122 _ _ (w.heap.size + 1 + 1) _ _ (0, 0) _ _ rfl rfl hM.blk Tryz.underlying31 (by kernel_rfl)) rfl ⟨rfl, HW2.out.trans (hM.low.mono (by omega))⟩
theorem replace20_bound (a1 a2 a3 : Option Addr) (n1 c1 n2 c2 n3 c3 : Nat) (int vk vi : Int) (vs nm : S) (w : World) : Calls Tryz.prog 71 #[.agg #[.int .i64 0, .slice a1 n1 c1, .slice a2 n2 c2], .agg #[.int .i64 26, .int .i64 int, .int .i64 vk, .int .i64 vi, .string ⟨vs.toArray⟩, .string ⟨nm.toArray⟩, .slice a3 n3 c3]] w (Ret w (.tuple #[zeroV, .int .i64 15])) := by
 go_enter Tryz.func71, Tryz.ntmps71
 go_upto_region 1 with (fail)
 refine name_alloc3 (K := Code.wp _ _ _ _) fun w1 hB0 hB1 hB2 hw1 hsz => ?_
 have HB2 := h_ hB2
 have HW1 := h_ hw1
 obtain ⟨p0, p1, p2⟩ := hB0.c3
 obtain ⟨q0, q1, q2, q3, q4, q5, q6⟩ := hB1.c7
 clear hB0 hB1 hB2 hw1 hsz
 go_wp2_with fail
 refine (bound20_none nm int a1 a2 n1 c1 n2 c2 w1).mono ?_
 rintro e w2 ⟨rfl, hw2⟩
 have HC2 := h_ (HB2.out.below hw2)
 have HW2 := t_ HW1 hw2
 clear hw2 p0 p1 p2 q0 q1 q2 q3 q4 q5 q6 HB2 HW1
 unfold zeroV
 obtain ⟨r0, r1, r2, r3, r4, r5, r6, f0, f1, f2, f3, f4, f5, f6⟩ := HC2.out.f7
 go_wp2_with fail
 refine name_set7 (K := fun w' => bodyPost _ _ _ _ _ w') HC2.out fun w3 hM => ?_
 exact bodyPost_ret (results_cell_tmp Tryz.results71 _ _ (w.heap.size + 1 + 1) _ _ (0, 0) _ _ rfl rfl hM.blk Tryz.underlying31 (by kernel_rfl)) rfl ⟨rfl, HW2.out.trans (hM.low.mono (by omega))⟩
theorem replace20_rel (a1 a2 a3 : Option Addr) (n1 c1 n2 c2 c3 : Nat) (int vk vi : Int) (vs nm : S) (w : World) : Calls Tryz.prog 71 #[.agg #[.int .i64 0, .slice a1 n1 c1, .slice a2 n2 c2], .agg #[.int .i64 25, .int .i64 int, .int .i64 vk, .int .i64 vi, .string ⟨vs.toArray⟩, .string ⟨nm.toArray⟩, .slice a3 0 c3]] w (Ret w (.tuple #[.agg #[.int .i64 24, .int .i64 int, .int .i64 0, .int .i64 0, .string ⟨#[]⟩, .string ⟨#[]⟩, .slice none 0 0], .int .i64 0])) := by
 go_enter Tryz.func71, Tryz.ntmps71
 go_upto_region 1 with (fail)
 refine name_alloc3 (K := Code.wp _ _ _ _) fun w1 hB0 hB1 hB2 hw1 hsz => ?_
 have HB2 := h_ hB2
 have HW1 := h_ hw1
 obtain ⟨p0, p1, p2⟩ := hB0.c3
 obtain ⟨q0, q1, q2, q3, q4, q5, q6⟩ := hB1.c7
 clear hB0 hB1 hB2 hw1 hsz
 go_wp2_with fail
 refine (related20_nil 25 int vk vi vs nm a1 a2 a3 n1 c1 n2 c2 c3 w1).mono ?_
 rintro e w2 ⟨rfl, hw2⟩
 have HC2 := h_ (HB2.out.below hw2)
 have HW2 := t_ HW1 hw2
 clear hw2 p0 p1 p2 q0 q1 q2 q3 q4 q5 q6 HB2 HW1
 skip
 obtain ⟨r0, r1, r2, r3, r4, r5, r6, f0, f1, f2, f3, f4, f5, f6⟩ := HC2.out.f7
 go_wp2_with fail
 refine name_set7 (K := fun w' => bodyPost _ _ _ _ _ w') HC2.out fun w3 hM => ?_
 exact bodyPost_ret (results_cell_tmp Tryz.results71 _ _ (w.heap.size + 1 + 1) _ _ (0, 0) _ _ rfl rfl hM.blk Tryz.underlying31 (by kernel_rfl)) rfl ⟨rfl, HW2.out.trans (hM.low.mono (by omega))⟩
theorem related20_cons (op int vk vi : Int) (vs nm : S) (l : List X) (cs : List Value) (a1 a2 : Option Addr) (n1 c1 n2 c2 : Nat) (w : World) (hl0 : 0 < l.length) (hn : l.length <= 1000000) (h : XR w (.mk op int vk vi vs nm l) cs) : Calls Tryz.prog 122 #[.agg #[.int .i64 0, .slice a1 n1 c1, .slice a2 n2 c2], .agg cs.toArray] w (Ret w (.tuple #[zeroV, .int .i64 15])) := by
 obtain ⟨a, m, rfl, hl, _, _, _⟩ := h.lits
 have HL := h_ hl
 clear h hl
 go_enter Tryz.func122, Tryz.ntmps122
 go_upto_region 1 with (fail)
 refine name_alloc3 (K := Code.wp _ _ _ _) fun w1 hB0 hB1 hB2 hw1 hsz => ?_
 have HB0 := h_ hB0
 have HB1 := h_ hB1
 have HB2 := h_ hB2
 have HW1 := h_ hw1
 have p1 := hB1.cell 1 rfl
 clear hB0 hB1 hB2 hw1
 go_upto_region 2 with (fail)
 refine nA fun w2 hB3 hw2 hsz2 => ?_
 have HC0 := h_ (HB0.out.below hw2)
 have HC1 := h_ (HB1.out.below hw2)
 have HC2 := h_ (HB2.out.below hw2)
 have HW2 := t_ HW1 hw2
 clear hB3 hw2 hsz2 HB0 HB1 HB2 HW1 p1
 go_upto_region 3 with (fail)
 go_loopw [7] (fun i wr => i = .int .i64 0 /\ wr = w2) (fun _ _ => 0)
 case atStart => exact ⟨rfl, rfl⟩
 case round =>
  obtain ⟨rfl, rfl⟩ := hrel
  have p6 := HC1.out.cell 6 rfl
  have k1 : (0 : Int) < (l.length : Int) := by omega
  go_upto_region 8 with (fail)
  go_loopw [8] (fun i wi => i = .int .i64 0 /\ wi = wr) (fun _ _ => 0)
  case atStart => exact ⟨rfl, rfl⟩
  case round =>
   obtain ⟨rfl, rfl⟩ := hrel
   obtain ⟨g, o, us, eq, hec, hkx, hrx⟩ := HL.out.ec hl0
   subst eq
   have hec : EC w g o us := by simpa using hec
   obtain ⟨eop, eint, evk, evi, evs, enm, el, ee⟩ : ∃ eop eint evk evi evs enm el, l[0] = X.mk eop eint evk evi evs enm el := by
    cases l[0]
    exact ⟨_, _, _, _, _, _, _, rfl⟩
   rw [ee] at hrx
   obtain ⟨ea, em, rfl, _⟩ := hrx.lits
   have r3 := hec.at_ HW2.out (j := 5) rfl
   obtain ⟨p0, p1, p2⟩ := HC0.out.c3
   go_upto_region 8 with (fail)
   have l0 : w.heap.size < wr.heap.size := HC0.out.lt
   have l1 : w.heap.size + 1 < wr.heap.size := HC1.out.lt
   have lg : g < wr.heap.size := Nat.lt_of_lt_of_le hec.1 HW2.out.size
   go_region_law (go_simp; go_at_call 121; refine (bound20_none enm 0 a1 a2 n1 c1 n2 c2 _).mono ?_; rintro e w8 ⟨rfl, hw8⟩; unfold zeroV; try (have hnb : Blk w8 wr.heap.size _ _ := (Blk.new wr.drew [.int .i64 0, .int .i64 0, .int .i64 0, .int .i64 0, .string ⟨#[]⟩, .string ⟨#[]⟩, .slice none 0 0] 31).below hw8; have bn0 := hnb.cell 0 rfl; have bn1 := hnb.cell 1 rfl; have bn2 := hnb.cell 2 rfl; have bn3 := hnb.cell 3 rfl; have bn4 := hnb.cell 4 rfl; have bn5 := hnb.cell 5 rfl; have bn6 := hnb.cell 6 rfl; have bm0 := hnb.free 0; have bm1 := hnb.free 1; have bm2 := hnb.free 2; have bm3 := hnb.free 3; have bm4 := hnb.free 4; have bm5 := hnb.free 5; have bm6 := hnb.free 6))
   all_goals first
    | (have _t := hnb; clear _t; refine name_set7 (K := Exit.then _ _ _ _) hnb fun w9 hM => ?_; have HW9 := h_ ((below_undrew ((Below.refl _ wr.drew).alloc (Nat.le_refl _) _)).trans ((hw8.mono (by simp)).trans hM.low)); clear hM hnb bn0 bn1 bn2 bn3 bn4 bn5 bn6 bm0 bm1 bm2 bm3 bm4 bm5 bm6)
    | (refine name_alloc (K := Exit.then _ _ _ _) fun w9 hB9 hw9 hs9 => ?_; have HW9 := h_ ((below_undrew hw8).trans (hw9.mono hw8.size)); clear hB9 hw9 hs9)
   all_goals
    have HE2 := h_ (HC2.out.below HW9.out)
    have HWE := h_ (HW2.out.trans (HW9.out.mono HW2.out.size))
    clear hw8 HW9 l0 l1 lg p0 p1 p2 p6 r3 HC0 HC1 HC2 HW2 hec
    obtain ⟨r0, r1, r2, r3, r4, r5, r6, f0, f1, f2, f3, f4, f5, f6⟩ := HE2.out.f7
    go_wp2_with fail
    refine name_set7 (K := fun w' => bodyPost _ _ _ _ _ w') HE2.out fun w10 hM => ?_
    exact bodyPost_ret (results_cell_tmp Tryz.results122 _ _ (w.heap.size + 1 + 1) _ _ (0, 0) _ _ rfl rfl hM.blk Tryz.underlying31 (by kernel_rfl)) rfl ⟨rfl, HWE.out.trans (hM.low.mono (by omega))⟩
theorem replace20_relc (a1 a2 : Option Addr) (n1 c1 n2 c2 : Nat) (int vk vi : Int) (vs nm : S) (l : List X) (cs : List Value) (w : World) (hl0 : 0 < l.length) (hn : l.length <= 1000000) (h : XR w (.mk 25 int vk vi vs nm l) cs) : Calls Tryz.prog 71 #[.agg #[.int .i64 0, .slice a1 n1 c1, .slice a2 n2 c2], .agg cs.toArray] w (Ret w (.tuple #[zeroV, .int .i64 15])) := by
 have HX := h_ h
 obtain ⟨a, m, rfl, _⟩ := h.lits
 clear h
 go_enter Tryz.func71, Tryz.ntmps71
 go_upto_region 1 with (fail)
 refine name_alloc3 (K := Code.wp _ _ _ _) fun w1 hB0 hB1 hB2 hw1 hsz => ?_
 have HB2 := h_ hB2
 have HW1 := h_ hw1
 have p0 := (h_ hB0).out.cell 0 rfl
 have p1 := (h_ hB0).out.cell 1 rfl
 have p2 := (h_ hB0).out.cell 2 rfl
 have q0 := (h_ hB1).out.cell 0 rfl
 have q1 := (h_ hB1).out.cell 1 rfl
 have q2 := (h_ hB1).out.cell 2 rfl
 have q3 := (h_ hB1).out.cell 3 rfl
 have q4 := (h_ hB1).out.cell 4 rfl
 have q5 := (h_ hB1).out.cell 5 rfl
 have q6 := (h_ hB1).out.cell 6 rfl
 clear hB0 hB1 hB2 hw1 hsz
 go_wp2_with fail
 refine (related20_cons 25 int vk vi vs nm l _ a1 a2 n1 c1 n2 c2 w1 hl0 hn (HX.out.kept HW1.out (Nat.le_refl _))).mono ?_
 rintro e w2 ⟨rfl, hw2⟩
 have HC2 := h_ (HB2.out.below hw2)
 have HW2 := t_ HW1 hw2
 clear hw2 p0 p1 p2 q0 q1 q2 q3 q4 q5 q6 HB2 HW1
 unfold zeroV
 obtain ⟨r0, r1, r2, r3, r4, r5, r6, f0, f1, f2, f3, f4, f5, f6⟩ := HC2.out.f7
 go_wp2_with fail
 refine name_set7 (K := fun w' => bodyPost _ _ _ _ _ w') HC2.out fun w3 hM => ?_
 exact bodyPost_ret (results_cell_tmp Tryz.results71 _ _ (w.heap.size + 1 + 1) _ _ (0, 0) _ _ rfl rfl hM.blk Tryz.underlying31 (by kernel_rfl)) rfl ⟨rfl, HW2.out.trans (hM.low.mono (by omega))⟩
theorem replace20_node (tn : Option S) (cols : List S) (s0 s1 s2 : Value) (op int vk vi : Int) (vs nm : S) (l : List X) (cs : List Value) (w : World) (hop1 : ¬ op = 3) (hop2 : ¬ op = 26) (hop3 : ¬ op = 25) (hn : l.length <= 1000000) (h : XR w (.mk op int vk vi vs nm l) cs)
  (IH : ∀ (k : Nat) (hk : k < l.length) (us : List Value) (w' : World), Below w.heap.size w w' -> XR w' l[k] us -> Calls Tryz.prog 71 #[.agg #[s0, s1, s2], .agg us.toArray] w' (RepPost w' (resR tn cols l[k]))) :
  Calls Tryz.prog 71 #[.agg #[s0, s1, s2], .agg cs.toArray] w (RepPost w (nodeR op int vk vi vs nm (resRs tn cols l))) := by
 obtain ⟨ix, hix, hx0, hx1, hx2⟩ := info_parts infoExpr
 obtain ⟨a, m, rfl, hl, h1, h2, _⟩ := h.lits
 have HV1 := h_ h1
 have HV2 := h_ h2
 have HL := h_ hl
 have HIH := h_ IH
 have d1 : (op == 3) = false := by simpa using hop1
 have d2 : (op == 26) = false := by simpa using hop2
 have d3 : (op == 25) = false := by simpa using hop3
 clear h hl hop1 hop2 hop3 IH h1 h2
 go_enter Tryz.func71, Tryz.ntmps71
 go_upto_region 1 with (fail)
 refine name_alloc3 (K := Code.wp _ _ _ _) fun w1 hB0 hB1 hB2 hw1 hsz => ?_
 have HB0 := h_ hB0
 have HB1 := h_ hB1
 have HB2 := h_ hB2
 have HW1 := h_ hw1
 obtain ⟨q0, q1, q2, q3, q4, q5, q6⟩ := HB1.out.c7
 clear hB0 hB1 hB2 hw1
 go_upto_region 13 with (fail)
 refine nA fun w2 hB3 hw2 hsz2 => ?_
 rw [hsz] at hB3
 have hs2 : w2.heap.size = w.heap.size + 1 + 1 + 1 + 1 := by rw [hsz2, hsz]
 have HS2 := h_ hs2
 have HB3 := h_ hB3
 have HC0 := h_ (HB0.out.below hw2)
 have HC1 := h_ (HB1.out.below hw2)
 have HC2 := h_ (HB2.out.below hw2)
 have HW2 := t_ HW1 hw2
 clear hB3 hw2 hsz2 hsz hs2 HB0 HB1 HB2 HW1 q0 q1 q2 q3 q4 q5 q6 d1 d2 d3
 go_upto_region 14 with (fail)
 go_loopw [9] (fun i wr => ∃ (k : Nat) (l' : List X) (v : Value), k <= l.length /\ i = .int .i64 (k : Int) /\ Hid (resRs tn cols (l.take k) = .inl l') /\ Blk wr (w.heap.size + 1 + 1 + 1) [.int .i64 op, .int .i64 int, .int .i64 vk, .int .i64 vi, .string ⟨vs.toArray⟩, .string ⟨nm.toArray⟩, v] 31 /\ OwnX (w.heap.size + 1 + 1 + 1 + 1) v l' wr /\ Below (w.heap.size + 1 + 1 + 1) w2 wr) (fun i _ => l.length - (intOf i).toNat)
 case atStart => exact ⟨0, [], _, Nat.zero_le _, rfl, h_ rfl, HB3.out, OwnX.nil _ _, Below.refl _ _⟩
 case round =>
  obtain ⟨k, l', v, hk, rfl, HR, hb3, hox, hb⟩ := hrel
  have HD0 := h_ (Blk.low HC0.out hb (by omega))
  have HD1 := h_ (Blk.low HC1.out hb (by omega))
  have HD2 := h_ (Blk.low HC2.out hb (by omega))
  have HD3 := h_ hb3
  have HO := h_ hox
  have HWr := h_ (HW2.out.trans (hb.mono (by omega)))
  have HBB := h_ hb
  have HSR : Hid (w.heap.size + 1 + 1 + 1 + 1 <= wr.heap.size) := h_ (by have := HS2.out; have := hb.size; omega)
  clear hb hb3 hox
  have p6 := HD1.out.cell 6 rfl
  by_cases hlt : k < l.length
  ·have k1 : (k : Int) < (l.length : Int) := by omega
   have k0 : (0 : Int) <= (k : Int) := by omega
   obtain ⟨g, o, us, eq, hec, hkx, hrx⟩ := HL.out.ec hlt
   subst eq
   have HIK := h_ fun (w' : World) (hw' : Below wr.heap.size wr w') => HIH.out k hkx us w' (HWr.out.trans (hw'.mono HWr.out.size)) (hrx.kept (HWr.out.trans (hw'.mono HWr.out.size)) (Nat.le_refl _))
   have HT := h_ (resRs_take hkx HR.out)
   have HBD := h_ fun (e : Int) (h2 : resR tn cols l[k] = .no e) => resRs_bad hkx HR.out h2
   have HNO := h_ fun (e : Int) (h2 : resR tn cols l[k] = .no e) => resR_no h2
   generalize l[k] = xk at hrx HIK HT HBD HNO
   obtain ⟨eop, eint, evk, evi, evs, enm, el⟩ := xk
   obtain ⟨ea, em, rfl, _⟩ := hrx.lits
   obtain ⟨e0, e1, e2, e3, e4, e5, e6⟩ := hec.c7 HWr.out
   obtain ⟨p0, p1, p2⟩ := HD0.out.c3
   have lg : g < wr.heap.size := Nat.lt_of_lt_of_le hec.1 HWr.out.size
   have l0 : w.heap.size < wr.heap.size := HD0.out.lt
   have l1 : w.heap.size + 1 < wr.heap.size := HD1.out.lt
   have hbd : Below wr.heap.size wr wr.drew := below_drew (Below.refl _ _)
   clear hrx hec
   go_upto_region 16 with (fail)
   cases hR : resR tn cols (.mk eop eint evk evi evs enm el) with
   | no q =>
    have hq := HNO.out q hR
    have HF := h_ (HBD.out q hR)
    have HIQ : Hid (∀ (w' : World), Below wr.heap.size wr w' -> Calls Tryz.prog 71 #[.agg #[s0, s1, s2], .agg #[.int .i64 eop, .int .i64 eint, .int .i64 evk, .int .i64 evi, .string ⟨evs.toArray⟩, .string ⟨enm.toArray⟩, .slice ea el.length em]] w' (Ret w' (.tuple #[zeroV, .int .i64 q]))) := h_ fun w' hw' => (HIK.out w' hw').mono fun e w'' hp => by rw [hR] at hp; exact ⟨hp.1, hp.2⟩
    clear HIK HT HBD HNO hR
    have q0 : (q != 0) = true := by rcases hq with rfl | rfl <;> rfl
    clear hq
    go_region_law (go_simp; go_at_call 71; refine (HIQ.out _ (by first | exact hbd | exact hbd.alloc (Nat.le_refl _) _)).mono ?_; rintro e w8 ⟨rfl, hw8⟩; unfold zeroV; try (have hnb : Blk w8 wr.heap.size _ _ := (Blk.new wr.drew [.int .i64 0, .int .i64 0, .int .i64 0, .int .i64 0, .string ⟨#[]⟩, .string ⟨#[]⟩, .slice none 0 0] 31).below hw8; have bn0 := hnb.cell 0 rfl; have bn1 := hnb.cell 1 rfl; have bn2 := hnb.cell 2 rfl; have bn3 := hnb.cell 3 rfl; have bn4 := hnb.cell 4 rfl; have bn5 := hnb.cell 5 rfl; have bn6 := hnb.cell 6 rfl; have bm0 := hnb.free 0; have bm1 := hnb.free 1; have bm2 := hnb.free 2; have bm3 := hnb.free 3; have bm4 := hnb.free 4; have bm5 := hnb.free 5; have bm6 := hnb.free 6))
    all_goals first
     | (have _t := hnb; clear _t; refine name_set7 (K := Exit.then _ _ _ _) hnb fun w9 hM => ?_; have HW9 := h_ ((below_undrew ((Below.refl _ wr.drew).alloc (Nat.le_refl _) _)).trans ((hw8.mono (by simp)).trans hM.low)); clear hM hnb bn0 bn1 bn2 bn3 bn4 bn5 bn6 bm0 bm1 bm2 bm3 bm4 bm5 bm6)
     | (refine name_alloc (K := Exit.then _ _ _ _) fun w9 hB9 hw9 hs9 => ?_; have HW9 := h_ ((below_undrew hw8).trans (hw9.mono hw8.size)); clear hB9 hw9 hs9)
    all_goals
     have HE2 := h_ (HD2.out.below HW9.out)
     have HWE := h_ (HWr.out.trans (HW9.out.mono HWr.out.size))
     clear hw8 HW9 l0 l1 lg p0 p1 p2 p6 e0 e1 e2 e3 e4 e5 e6 HD0 HD1 HD2 HWr hbd HC0 HC1 HC2 HD3 HO HBB
     obtain ⟨r0, r1, r2, r3, r4, r5, r6, f0, f1, f2, f3, f4, f5, f6⟩ := HE2.out.f7
     go_wp2_with fail
     refine name_set7 (K := fun w' => bodyPost _ _ _ _ _ w') HE2.out fun w10 hM => ?_
     exact bodyPost_ret (results_cell_tmp Tryz.results71 _ _ (w.heap.size + 1 + 1) _ _ (0, 0) _ _ rfl rfl hM.blk Tryz.underlying31 (by kernel_rfl)) rfl ⟨by rw [HF.out]; rfl, HWE.out.trans (hM.low.mono (by omega))⟩
   | ok y =>
    have HTT : Hid (resRs tn cols (l.take (k + 1)) = .inl (l' ++ [y])) := h_ (by have := HT.out; rw [hR] at this; exact this)
    obtain ⟨yop, yint, yvk, yvi, yvs, ynm, yl⟩ := y
    have HIQ : Hid (∀ (w' : World), Below wr.heap.size wr w' -> Calls Tryz.prog 71 #[.agg #[s0, s1, s2], .agg #[.int .i64 eop, .int .i64 eint, .int .i64 evk, .int .i64 evi, .string ⟨evs.toArray⟩, .string ⟨enm.toArray⟩, .slice ea el.length em]] w' (fun e w'' => ∃ ya ym, e = .returned (.tuple #[.agg #[.int .i64 yop, .int .i64 yint, .int .i64 yvk, .int .i64 yvi, .string ⟨yvs.toArray⟩, .string ⟨ynm.toArray⟩, .slice ya yl.length ym], .int .i64 0]) /\ XF w'.heap.size w''.heap.size w'' (.mk yop yint yvk yvi yvs ynm yl) [.int .i64 yop, .int .i64 yint, .int .i64 yvk, .int .i64 yvi, .string ⟨yvs.toArray⟩, .string ⟨ynm.toArray⟩, .slice ya yl.length ym] /\ Below w'.heap.size w' w'')) := h_ fun w' hw' => (HIK.out w' hw').mono fun e w'' hp => by
     rw [hR] at hp
     obtain ⟨⟨ya, ym, h1, h2⟩, h3⟩ := (hp : (∃ a m, _ /\ _) /\ _)
     exact ⟨ya, ym, h1, h2, h3⟩
    clear HIK HT HBD HNO hR
    go_region_law (go_simp; go_at_call 71; refine (HIQ.out _ (by first | exact hbd | exact hbd.alloc (Nat.le_refl _) _)).mono ?_; rintro e w8 ⟨ya, ym, rfl, hxf, hw8⟩; try (have hnb : Blk w8 wr.heap.size _ _ := (Blk.new wr.drew [.int .i64 0, .int .i64 0, .int .i64 0, .int .i64 0, .string ⟨#[]⟩, .string ⟨#[]⟩, .slice none 0 0] 31).below hw8; have bn0 := hnb.cell 0 rfl; have bn1 := hnb.cell 1 rfl; have bn2 := hnb.cell 2 rfl; have bn3 := hnb.cell 3 rfl; have bn4 := hnb.cell 4 rfl; have bn5 := hnb.cell 5 rfl; have bn6 := hnb.cell 6 rfl; have bm0 := hnb.free 0; have bm1 := hnb.free 1; have bm2 := hnb.free 2; have bm3 := hnb.free 3; have bm4 := hnb.free 4; have bm5 := hnb.free 5; have bm6 := hnb.free 6))
    all_goals first
     | (have _t := hnb; clear _t; refine name_set7 (K := Exit.then _ _ _ _) hnb fun w9 hM => ?_; have HW9 := h_ ((below_undrew ((Below.refl _ wr.drew).alloc (Nat.le_refl _) _)).trans ((hw8.mono (by simp)).trans hM.low)); have HB9 := h_ hM.blk; have HXF : Hid (∃ lo hi, wr.heap.size <= lo /\ hi <= w9.heap.size /\ XF lo hi w9 (.mk yop yint yvk yvi yvs ynm yl) [.int .i64 yop, .int .i64 yint, .int .i64 yvk, .int .i64 yvi, .string ⟨yvs.toArray⟩, .string ⟨ynm.toArray⟩, .slice ya yl.length ym]) := h_ ⟨_, _, (by simp), (by rw [hM.size]; exact Nat.le_refl _), hxf.same (fun b b1 b2 => hM.far b (by simp at b1; omega)) (Nat.le_refl _) (Nat.le_refl _)⟩; clear hxf hM hnb bn0 bn1 bn2 bn3 bn4 bn5 bn6 bm0 bm1 bm2 bm3 bm4 bm5 bm6)
     | (refine name_alloc (K := Exit.then _ _ _ _) fun w9 hB9 hw9 hs9 => ?_; have HW9 := h_ ((below_undrew hw8).trans (hw9.mono hw8.size)); have HB9 := h_ hB9; have HXF : Hid (∃ lo hi, wr.heap.size <= lo /\ hi <= w9.heap.size /\ XF lo hi w9 (.mk yop yint yvk yvi yvs ynm yl) [.int .i64 yop, .int .i64 yint, .int .i64 yvk, .int .i64 yvi, .string ⟨yvs.toArray⟩, .string ⟨ynm.toArray⟩, .slice ya yl.length ym]) := h_ ⟨_, _, (Nat.le_refl _), hw9.size, hxf.below hw9 (Nat.le_refl _)⟩; clear hxf hB9 hw9 hs9)
    all_goals
     obtain ⟨lo, hi, hlo, hhi, hxf⟩ := HXF.out
     have HLO := h_ hlo
     have HHI := h_ hhi
     have HXG := h_ hxf
     have HBW := h_ ((HW9.out.mono HSR.out : Below (w.heap.size + 1 + 1 + 1 + 1) wr w9))
     have HSN := h_ (Nat.le_trans HSR.out HW9.out.size)
     have HO9 := h_ (HO.out.below HW9.out)
     have HE3 := h_ (HD3.out.below HW9.out)
     clear hlo hhi hxf HXF hw8 HW9 l0 l1 lg p0 p1 p2 p6 e0 e1 e2 e3 e4 e5 e6 HD0 HD1 HD2 HD3 hbd HC0 HC1 HC2
     have p36 := HE3.out.cell 6 rfl
     have f36 := HE3.out.free 6
     obtain ⟨z0, z1, z2, z3, z4, z5, z6⟩ := HB9.out.c7
     obtain ⟨css, hc1, hc2, hc3, hc4⟩ := (HO9.out.below ((Below.refl _ w9).alloc (Nat.le_refl _) (.cells ([.int .i64 yop, .int .i64 yint, .int .i64 yvk, .int .i64 yvi, .string ⟨yvs.toArray⟩, .string ⟨ynm.toArray⟩, .slice ya yl.length ym] : List Value).toArray 31))).row
     have HCS := h_ hc4
     have HLL : Hid (l'.length <= 1000000) := h_ (by have := resRs_len HR.out; rw [this, List.length_take]; omega)
     clear hc4
     go_upto_region 19 with (fail)
     go_upto_region 15 with (at_builtin; refine wpList_append_own_at _ rfl (.tmp 70) (.tmp 72) 25 rfl (w.heap.size + 1 + 1 + 1 + 1) 31 ix _ 7 88 Tryz.underlying25 hix hx0 hx1 hx2 rfl (by omega) v l'.length _ rfl hc3 ⟨w9.heap.size, 0, none⟩ 1 1 [.int .i64 yop, .int .i64 yint, .int .i64 yvk, .int .i64 yvi, .string ⟨yvs.toArray⟩, .string ⟨ynm.toArray⟩, .slice ya yl.length ym] rfl rfl (fun j u hj => by rw [Addr.add_lit]; exact (Blk.new w9 [.int .i64 yop, .int .i64 yint, .int .i64 yvk, .int .i64 yvi, .string ⟨yvs.toArray⟩, .string ⟨ynm.toArray⟩, .slice ya yl.length ym] 31).cell _ (by simpa using hj)) (fun u hu => by simp at hu; rcases hu with rfl | rfl | rfl | rfl | rfl | rfl | rfl <;> rfl) (by have := HLL.out; unfold maxLen; omega) (by have := HLL.out; omega) (by have := HSN.out; simp; omega) ?_)
     intro v5 w5 hrow hg5 _ hat5
     have hb59 : Below (w.heap.size + 1 + 1 + 1 + 1) w9 w5 := ((Below.refl _ w9).alloc HSN.out _).grown hg5 (Nat.le_trans HSN.out (by simp)) (fun g e => (HO9.out.lt g e).1)
     have HN := h_ (OwnX.snoc hc1 hc2 rfl HCS.out (HXG.out.below ((Below.refl _ w9).alloc (Nat.le_refl _) _) HHI.out) (Nat.le_trans HSR.out HLO.out) (Nat.le_trans HHI.out (by simp)) (fun g e => .inl (Nat.lt_of_lt_of_le (HO.out.lt g e).2 HLO.out)) hrow hg5 (by simpa using hat5))
     have HK3 := h_ (Blk.low HE3.out hb59 (by omega))
     have HB5 := h_ (HBW.out.trans hb59)
     obtain ⟨⟨a5, c5, e5⟩, _⟩ := HN.out.done (by have := HLL.out; rw [List.length_append, List.length_singleton]; have := resRs_len HR.out; rw [List.length_take] at this; omega)
     rw [List.length_append, List.length_singleton] at e5
     clear hrow hg5 hat5 hb59 hc1 hc2 hc3 p36 f36 z0 z1 z2 z3 z4 z5 z6 HE3 HB9
     subst e5
     have p5 := HK3.out.cell 6 rfl
     have f5 := HK3.out.free 6
     go_upto_region 15 with (fail)
     refine name_setT (K := Code.wp _ _ _ _) HK3.out fun w6 hL3 hw6 hs6 ho6 => ?_
     have HL3 := h_ hL3
     have HO6 := h_ (HN.out.same (fun b hb => ho6 b (by omega)) hs6)
     have HB6 := h_ (HBB.out.trans ((HB5.out.mono (by omega)).trans hw6))
     clear hL3 hw6 hs6 ho6 HK3 HN HB5 p5 f5
     go_wp2_with fail
     go_roundw
     case rel => exact ⟨k + 1, _, _, by omega, by go_num, HTT, HL3.out, HO6.out, HB6.out⟩
     case measure => simp [intOf]; omega
  ·obtain rfl : k = l.length := by omega
   have d1 : decide ((l.length : Int) < (l.length : Int)) = false := decide_eq_false (by omega)
   have HF : Hid (resRs tn cols l = .inl l') := h_ (by have := HR.out; rwa [List.take_length] at this)
   obtain ⟨⟨av, cv, ev⟩, hdone⟩ := HO.out.done (by rw [resRs_len HF.out]; omega)
   have HDN := h_ hdone
   clear hdone HO HR
   subst ev
   obtain ⟨z0, z1, z2, z3, z4, z5, z6⟩ := HD3.out.c7
   obtain ⟨r0, r1, r2, r3, r4, r5, r6, f0, f1, f2, f3, f4, f5, f6⟩ := HD2.out.f7
   go_wp2_with fail
   refine name_set7 (K := fun w' => bodyPost _ _ _ _ _ w') HD2.out fun w10 hM => ?_
   exact bodyPost_ret (results_cell_tmp Tryz.results71 _ _ (w.heap.size + 1 + 1) _ _ (0, 0) _ _ rfl rfl hM.blk Tryz.underlying31 (by kernel_rfl)) rfl ⟨by rw [HF.out]; exact ⟨av, cv, rfl, fun w'' hw'' => xr_node w'' op int vk vi vs nm l' _ HV1.out HV2.out (HDN.out w'' fun b b1 b2 => (hw'' b (by omega) (by rw [hM.size]; exact b2)).trans (hM.far b (by omega)))⟩, HWr.out.trans (hM.low.mono (by omega))⟩
theorem bind20_call (s0 s1 : Value) (ak : Option Addr) (ck : Nat) (ks : List Int) (r : RX) (cs : List Value) (x : X) (w : World) (hv : SI w ks ak) (hks : ks.length <= 1000000) (h : XR w x cs) (hrn : ∀ y, r = .ok y -> nodes y <= 1000000 /\ shortX y) (hre : ∀ q, r = .no q -> q ≠ 0)
  (HR : ∀ w', Below w.heap.size w w' -> Calls Tryz.prog 71 #[.agg #[s0, s1, .slice ak ks.length ck], .agg cs.toArray] w' (RepPost w' r)) :
  Calls Tryz.prog 40 #[.agg #[s0, s1, .slice ak ks.length ck], .agg cs.toArray] w (BindPost w (bindR ks r)) := by
 obtain ⟨op, int, vk, vi, vs, nm, l⟩ := x
 obtain ⟨a, m, rfl, hl, _, _, _⟩ := h.lits
 have HRR := h_ HR
 have HV := h_ hv
 have HRN := h_ hrn
 have HRE := h_ hre
 clear h hl HR hv hrn hre
 go_enter Tryz.func40, Tryz.ntmps40
 go_upto_region 1 with (fail)
 refine name_alloc3 (K := Code.wp _ _ _ _) fun w1 hB0 hB1 hB2 hw1 hsz => ?_
 have HS1 := h_ hsz
 have HB0 := h_ hB0
 have HB2 := h_ hB2
 have HW1 := h_ hw1
 have p0 := (h_ hB0).out.cell 0 rfl
 have p1 := (h_ hB0).out.cell 1 rfl
 have p2 := (h_ hB0).out.cell 2 rfl
 have q0 := (h_ hB1).out.cell 0 rfl
 have q1 := (h_ hB1).out.cell 1 rfl
 have q2 := (h_ hB1).out.cell 2 rfl
 have q3 := (h_ hB1).out.cell 3 rfl
 have q4 := (h_ hB1).out.cell 4 rfl
 have q5 := (h_ hB1).out.cell 5 rfl
 have q6 := (h_ hB1).out.cell 6 rfl
 clear hB0 hB1 hB2 hw1 hsz
 go_wp2_with fail
 refine (HRR.out w1 HW1.out).mono ?_
 intro e w2 hp
 have HC2 := h_ (HB2.out.below hp.2)
 have HC0 := h_ (HB0.out.below hp.2)
 have HW2 := h_ (HW1.out.trans (hp.2.mono HW1.out.size))
 have HS2 := h_ hp.2.size
 have hp1 := hp.1
 clear hp HB2 HW1 HRR p0 p1 p2 q0 q1 q2 q3 q4 q5 q6 HB0
 cases r with
 | no q =>
  have hq := HRE.out q rfl
  have q0 : (q != 0) = true := by simpa using hq
  have hp1 : e = .returned (.tuple #[zeroV, .int .i64 q]) := hp1
  subst hp1
  clear hq
  unfold zeroV
  go_upto_region 2 with (fail)
  refine nA fun w3 hB3 hw3 hsz3 => ?_
  have HD2 := h_ (HC2.out.below hw3)
  have HW3 := t_ HW2 hw3
  clear hB3 hw3 hsz3 HC2 HW2
  obtain ⟨r0, r1, r2, r3, r4, r5, r6, f0, f1, f2, f3, f4, f5, f6⟩ := HD2.out.f7
  go_wp2_with fail
  refine name_set7 (K := fun w' => bodyPost _ _ _ _ _ w') HD2.out fun w9 hM => ?_
  exact bodyPost_ret (results_cell_tmp2 Tryz.results40 _ _ (w.heap.size + 1 + 1) _ _ (0, 0) _ _ _ rfl rfl rfl hM.blk Tryz.underlying31 (by kernel_rfl)) rfl ⟨rfl, HW3.out.trans (hM.low.mono (by omega))⟩
 | ok y =>
  obtain ⟨hny, hsy⟩ := HRN.out y rfl
  obtain ⟨yop, yint, yvk, yvi, yvs, ynm, yl⟩ := y
  obtain ⟨ya, ym, rfl, hxf⟩ := (hp1 : ∃ a m, e = .returned (.tuple #[.agg (xc (.mk yop yint yvk yvi yvs ynm yl) a m).toArray, .int .i64 0]) /\ XF w1.heap.size w2.heap.size w2 (.mk yop yint yvk yvi yvs ynm yl) (xc (.mk yop yint yvk yvi yvs ynm yl) a m))
  simp only [xc] at hxf |-
  have HX := h_ hxf
  clear hxf
  go_upto_region 2 with (fail)
  refine nA fun w3 hB3 hw3 hsz3 => ?_
  have HD2 := h_ (HC2.out.below hw3)
  have HD3 := h_ hB3
  have HW3 := t_ HW2 hw3
  have HX3 := h_ (HX.out.below hw3 (Nat.le_refl _))
  have HS3 := h_ hw3.size
  have HLT : Hid (w2.heap.size < w3.heap.size) := h_ hB3.lt
  have p2 := (HC0.out.below hw3).cell 2 rfl
  clear hB3 hw3 hsz3 HC2 HW2 HC0 HX
  obtain ⟨z0, z1, z2, z3, z4, z5, z6⟩ := HD3.out.c7
  have HCK := h_ (rCheck_call (.mk yop yint yvk yvi yvs ynm yl) [.int .i64 yop, .int .i64 yint, .int .i64 yvk, .int .i64 yvi, .string ⟨yvs.toArray⟩, .string ⟨ynm.toArray⟩, .slice ya yl.length ym] w3 ks ak ck hny hsy hks (HV.out.below HW3.out) HX3.out.now)
  have HQ : Hid (bindR ks (.ok (.mk yop yint yvk yvi yvs ynm yl)) = if (chk ks (.mk yop yint yvk yvi yvs ynm yl)).2 = 0 then .inl ((.mk yop yint yvk yvi yvs ynm yl), (chk ks (.mk yop yint yvk yvi yvs ynm yl)).1) else .inr (chk ks (.mk yop yint yvk yvi yvs ynm yl)).2) := h_ rfl
  generalize chk ks (.mk yop yint yvk yvi yvs ynm yl) = qq at HCK HQ
  obtain ⟨q1, q2⟩ := qq
  clear HV HRN HRE hny hsy
  go_wp2_with fail
  refine HCK.out.mono ?_
  rintro e w4 ⟨rfl, hw4⟩
  unfold TupII
  have HE2 := h_ (HD2.out.below hw4)
  have HE3 := h_ (HD3.out.below hw4)
  have HW4 := t_ HW3 hw4
  have HX4 := h_ (HX3.out.below hw4 (by have := HLT.out; omega))
  have HS4 := h_ hw4.size
  clear hw4 HD2 HD3 HW3 HX3 HCK p2 z0 z1 z2 z3 z4 z5 z6
  obtain ⟨r0, r1, r2, r3, r4, r5, r6, f0, f1, f2, f3, f4, f5, f6⟩ := HE2.out.f7
  obtain ⟨s0, s1, s2, s3, s4, s5, s6⟩ := HE3.out.c7
  by_cases hq : q2 = 0
  ·subst hq
   have HF : Hid (bindR ks (.ok (.mk yop yint yvk yvi yvs ynm yl)) = .inl ((.mk yop yint yvk yvi yvs ynm yl), q1)) := h_ (by rw [HQ.out]; rfl)
   go_wp2_with fail
   refine name_set7 (K := fun w' => bodyPost _ _ _ _ _ w') HE2.out fun w9 hM => ?_
   exact bodyPost_ret (results_cell_tmp2 Tryz.results40 _ _ (w.heap.size + 1 + 1) _ _ (0, 0) _ _ _ rfl rfl rfl hM.blk Tryz.underlying31 (by kernel_rfl)) rfl ⟨by rw [HF.out]; exact ⟨ya, ym, rfl, XF.same HX4.out (fun b b1 b2 => hM.far b (by have := HS1.out; omega)) (by have := HS1.out; omega) (by rw [hM.size]; have := HS3.out; have := HS4.out; omega)⟩, HW4.out.trans (hM.low.mono (by omega))⟩
  ·have HF : Hid (bindR ks (.ok (.mk yop yint yvk yvi yvs ynm yl)) = .inr q2) := h_ (by rw [HQ.out, if_neg hq])
   have d2 : (q2 != 0) = true := by simpa using hq
   clear hq
   go_wp2_with fail
   refine name_set7 (K := fun w' => bodyPost _ _ _ _ _ w') HE2.out fun w9 hM => ?_
   exact bodyPost_ret (results_cell_tmp2 Tryz.results40 _ _ (w.heap.size + 1 + 1) _ _ (0, 0) _ _ _ rfl rfl rfl hM.blk Tryz.underlying31 (by kernel_rfl)) rfl ⟨by rw [HF.out]; rfl, HW4.out.trans (hM.low.mono (by omega))⟩
end Go.Proofs.YtnlimlboedohgaaGreatDoor.Px
