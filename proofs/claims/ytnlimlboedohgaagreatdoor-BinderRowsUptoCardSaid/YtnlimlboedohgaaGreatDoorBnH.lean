import Derived.Test.YtnlimlboedohgaaGreatDoorBnC
import Derived.Test.YtnlimlboedohgaaGreatDoorBnE
import Derived.Deep.DeepCutAuto
/-
  Assignments to a table in memory, what they become, and lists of expressions whose elements are exchanged.
-/
set_option maxHeartbeats 8000000
set_option maxRecDepth 100000
namespace Go.Proofs.YtnlimlboedohgaaGreatDoor.Px
open Go Go.RowKit Go.Proofs.YtnlimlboedohgaaGreatDoor.Ps
set_option linter.unusedVariables false
set_option linter.unusedSimpArgs false
abbrev Asg := S × X
def setC (s : Asg) : C := .a [.l (strV s.1), toC s.2]
def SL (w : World) (l : List Asg) (v : Value) : Prop := Rp Tryz.prog w 40 [v] (.s (l.map setC))
theorem SL.kept {n : Nat} {w w' : World} {l : List Asg} {v : Value} (h : SL w l v) (hb : Below n w w') (hn : w.heap.size <= n) : SL w' l v := Rp.kept hb hn h
theorem SL.at_ {w : World} {l : List Asg} {a : Option Addr} {n m k : Nat} (h : SL w l (.slice a n m)) (hk : k < n) : ∃ g o us, a = some ⟨g, o, none⟩ /\ ∃ hx : k < l.length, EC w g (o + k * 8) (.string ⟨l[k].1.toArray⟩ :: us) /\ XR w l[k].2 us /\ us.length = 7 /\ l[k].1.length <= maxLen := by
 obtain ⟨g, o, us, e, hc, hx, hr⟩ := el_at Tryz.underlying40 zc_Set (by omega) h hk
 have hx' : k < l.length := by simpa using hx
 rw [List.getElem_map] at hr
 obtain ⟨s0, y1, u1, u2, u3, u4, u5, u6, u7, rfl, e2, hs, hrx⟩ := shp_Set hr
 unfold setC at e2
 injection e2 with e2
 injection e2 with e0 e2
 injection e2 with e1 _
 injection e0 with e0
 unfold strV at e0
 injection e0 with e0
 subst e1
 subst e0
 exact ⟨g, o, _, e, hx', hc, hrx, rfl, by simpa [ByteArray.size] using hs⟩
theorem SL.len {w : World} {l : List Asg} {a : Option Addr} {n m : Nat} (h : SL w l (.slice a n m)) : l.length = n := by
 obtain ⟨_, _, _, ys, e1, e2, e3, _, _, _⟩ := h.slice_inv Tryz.underlying40
 cases e1
 injection e2 with e2
 subst e2
 simpa using e3
/-- seven cells from o on -/
def set7 (cs : List Value) (o : Nat) (u0 u1 u2 u3 u4 u5 u6 : Value) : List Value := ((((((cs.set o u0).set (o + 1) u1).set (o + 2) u2).set (o + 3) u3).set (o + 4) u4).set (o + 5) u5).set (o + 6) u6
theorem set7_take (cs : List Value) (o n : Nat) (u0 u1 u2 u3 u4 u5 u6 : Value) : (set7 cs o u0 u1 u2 u3 u4 u5 u6).take n = set7 (cs.take n) o u0 u1 u2 u3 u4 u5 u6 := by
 unfold set7
 simp only [List.take_set]
theorem set7_len (cs : List Value) (o : Nat) (u0 u1 u2 u3 u4 u5 u6 : Value) : (set7 cs o u0 u1 u2 u3 u4 u5 u6).length = cs.length := by
 unfold set7
 simp only [List.length_set]
theorem set7_flat (u0 u1 u2 u3 u4 u5 u6 : Value) : ∀ (css : List (List Value)) (i : Nat), i < css.length -> (∀ c ∈ css, c.length = 7) -> set7 css.flatten (i * 7) u0 u1 u2 u3 u4 u5 u6 = (css.set i [u0, u1, u2, u3, u4, u5, u6]).flatten
 | [], i, h, _ => absurd h (by simp)
 | c :: css, 0, _, hc => by
  have h7 := hc c (by simp)
  match c, h7 with
  | [c0, c1, c2, c3, c4, c5, c6], _ => simp [set7]
 | c :: css, i + 1, h, hc => by
  have h7 := hc c (by simp)
  have ih := set7_flat u0 u1 u2 u3 u4 u5 u6 css i (by simpa using h) (fun x hx => hc x (List.mem_cons_of_mem _ hx))
  have e : (i + 1) * 7 = c.length + i * 7 := by omega
  rw [List.flatten_cons, List.set_cons_succ, List.flatten_cons, <- ih, e]
  unfold set7
  have aux : ∀ (r : List Value) (j : Nat) (u : Value), (c ++ r).set (c.length + j) u = c ++ r.set j u := fun r j u => by rw [List.set_append_right _ _ (by omega)]; simp
  simp only [Nat.add_assoc, aux]
/-- an element exchanged -/
theorem OwnX.exch {B : Nat} {v : Value} {l : List X} {w : World} {i : Nat} (h : OwnX B v l w) (hi : i < l.length) : ∃ g cap cur, v = .slice (some ⟨g, 0, none⟩) l.length cap /\ Blk w g cur 31 /\ B <= g /\ i * 7 + 6 < cur.length /\
  ∀ (lo hi' : Nat) (x : X) (u0 u1 u2 u3 u4 u5 u6 : Value) (w' : World), Wr w g (set7 cur (i * 7) u0 u1 u2 u3 u4 u5 u6) 31 w' -> XF lo hi' w x [u0, u1, u2, u3, u4, u5, u6] -> B <= lo -> hi' <= w.heap.size -> (g < lo \/ hi' <= g) -> OwnX B v (l.set i x) w' := by
 obtain ⟨css, h1, h2, h3, h4⟩ := h.row
 rcases h3.2 with ⟨rfl, h0⟩ | ⟨g, cap, cur, rfl, hg, hc, hcap, hm, hs, ht⟩
 ·omega
 refine ⟨g, cap, cur.toList, rfl, by unfold Blk; simpa using hc, hg, by simp [hs]; omega, fun lo hi' x u0 u1 u2 u3 u4 u5 u6 w' hw hx hlo hhi hgl => ?_⟩
 refine ⟨css.set i [u0, u1, u2, u3, u4, u5, u6], by simp [h1], fun c hc' => ?_, ?_, fun k k1 k2 w2 hw2 => ?_⟩
 ·rcases List.mem_or_eq_of_mem_set hc' with e | rfl
  ·exact h2 c e
  ·rfl
 ·have hlen : (set7 cur.toList (i * 7) u0 u1 u2 u3 u4 u5 u6).take (l.length * 7) = (css.set i [u0, u1, u2, u3, u4, u5, u6]).flatten := by
   rw [set7_take, ht, set7_flat _ _ _ _ _ _ _ css i (by omega) h2]
  have hb := hw.blk
  unfold Blk at hb
  refine ⟨?_, .inr ⟨g, cap, _, by simp, hg, hb, by simpa using hcap, hm, by simp [set7_len, hs], by simpa using hlen⟩⟩
  rw [<- hlen, List.length_take, set7_len, Array.length_toList (xs := cur), hs, List.length_set]
  have : l.length * 7 <= cap * 7 := Nat.mul_le_mul_right _ hcap
  omega
 ·have hsz : w'.heap.size = w.heap.size := hw.size
  have old : ∀ b, B <= b -> b < w.heap.size -> g ≠ b -> w2.heap[b]? = w.heap[b]? := fun b b1 b2 b3 => (hw2 b b1 (by omega) (by simp [Value.ownBlock]; exact b3)).trans (hw.far b (fun e => b3 e.symm))
  by_cases hki : i = k
  ·subst hki
   simp only [List.getElem_set_self]
   exact hx w2 fun b b1 b2 => old b (by omega) (by omega) (by omega)
  ·rw [List.getElem_set_ne hki, List.getElem_set_ne hki]
   refine h4 k (by simpa using k1) (by simpa using k2) w2 fun b b1 b2 b3 => old b b1 b2 (fun e => b3 (by simp [Value.ownBlock, e]))
theorem EC.tail {w : World} {g o : Nat} {u : Value} {us : List Value} (h : EC w g o (u :: us)) : EC w g (o + 1) us := ⟨h.1, fun j v hj => by have := h.2 (j + 1) v (by simpa using hj); rwa [show o + 1 + j = o + (j + 1) by omega]⟩
theorem OwnX.made {B g : Nat} {w : World} (h : Blk w g [] 31) (hg : B <= g) : OwnX B (.slice (some ⟨g, 0, none⟩) 0 0) [] w :=
 ⟨[], rfl, (fun c hc => absurd hc (by simp)), ⟨rfl, .inr ⟨g, 0, #[], rfl, hg, h, Nat.le_refl _, Nat.zero_le _, rfl, rfl⟩⟩, fun k h => absurd h (by simp)⟩
theorem replace20_nameV (V : Int) (s1 s2 : Option Addr) (k1 c1 k2 c2 : Nat) (ax : Option Addr) (nx mx : Nat) (int vk vi : Int) (vs nm : S) (w : World) (hc : ∀ w', Below w.heap.size w w' -> Calls Tryz.prog 120 #[.agg #[.int .i64 0, .slice s1 k1 c1, .slice s2 k2 c2], .string ⟨nm.toArray⟩] w' (Ret w' (resT V))) :
  Calls Tryz.prog 71 #[.agg #[.int .i64 0, .slice s1 k1 c1, .slice s2 k2 c2], .agg #[.int .i64 3, .int .i64 int, .int .i64 vk, .int .i64 vi, .string ⟨vs.toArray⟩, .string ⟨nm.toArray⟩, .slice ax nx mx]] w (Ret w (repT V)) := by
 have HC := h_ hc
 clear hc
 go_enter Tryz.func71, Tryz.ntmps71
 go_upto_region 1 with (fail)
 refine name_alloc3 (K := Code.wp _ _ _ _) fun w1 hB0 hB1 hB2 hw1 hsz => ?_
 have HB2 := h_ hB2
 have HW1 := h_ hw1
 obtain ⟨p0, p1, p2⟩ := hB0.c3
 have q0 := hB1.cell 0 rfl
 have q5 := hB1.cell 5 rfl
 clear hB0 hB1 hB2 hw1 hsz
 go_wp2_with fail
 refine (HC.out w1 HW1.out).mono ?_
 rintro e w2 ⟨rfl, hw2⟩
 have HC2 := h_ (HB2.out.below hw2)
 have HW2 := t_ HW1 hw2
 clear hw2 p0 p1 p2 q0 q5 HB2 HW1 HC
 by_cases hv : V < 0
 ·have HT : Hid (repT V = .tuple #[zeroV, .int .i64 11]) := h_ (by unfold repT; rw [if_pos hv])
  have ht : resT V = .tuple #[.int .i64 0, .int .i64 11] := by unfold resT; rw [if_pos hv]
  rw [ht]
  clear ht
  obtain ⟨r0, r1, r2, r3, r4, r5, r6, f0, f1, f2, f3, f4, f5, f6⟩ := HC2.out.f7
  go_wp2_with fail
  refine name_set7 (K := fun w' => bodyPost _ _ _ _ _ w') HC2.out fun w3 hM => ?_
  exact bodyPost_ret (results_cell_tmp Tryz.results71 _ _ (w.heap.size + 1 + 1) _ _ (0, 0) _ _ rfl rfl hM.blk Tryz.underlying31 (by kernel_rfl)) rfl ⟨by rw [HT.out]; rfl, HW2.out.trans (hM.low.mono (by omega))⟩
 ·have HT : Hid (repT V = .tuple #[.agg #[.int .i64 2, .int .i64 V, .int .i64 0, .int .i64 0, .string ⟨#[]⟩, .string ⟨#[]⟩, .slice none 0 0], .int .i64 0]) := h_ (by unfold repT; rw [if_neg hv])
  have ht : resT V = .tuple #[.int .i64 V, .int .i64 0] := by unfold resT; rw [if_neg hv]
  rw [ht]
  clear ht hv
  go_wp2_with fail
  refine (column20_call V w2).mono ?_
  rintro e w3 ⟨rfl, hw3⟩
  have HC3 := h_ (HC2.out.below hw3)
  have HW3 := t_ HW2 hw3
  clear hw3 HC2 HW2
  obtain ⟨r0, r1, r2, r3, r4, r5, r6, f0, f1, f2, f3, f4, f5, f6⟩ := HC3.out.f7
  go_wp2_with fail
  refine name_set7 (K := fun w' => bodyPost _ _ _ _ _ w') HC3.out fun w4 hM => ?_
  exact bodyPost_ret (results_cell_tmp Tryz.results71 _ _ (w.heap.size + 1 + 1) _ _ (0, 0) _ _ rfl rfl hM.blk Tryz.underlying31 (by kernel_rfl)) rfl ⟨by rw [HT.out]; rfl, HW3.out.trans (hM.low.mono (by omega))⟩
theorem nameR_zero (s : S) : nameR none [] s = .no 11 := by
 unfold nameR
 cases hasDot s <;> simp [findN]
theorem resolve20_zero (s : S) (s1 s2 : Option Addr) (c1 k2 c2 : Nat) (w : World) (hs : s.length <= 140737488351232) : Calls Tryz.prog 120 #[.agg #[.int .i64 0, .slice s1 0 c1, .slice s2 k2 c2], .string ⟨s.toArray⟩] w (Ret w (resT (-1))) := by
 have HP : Hid (∀ w', Calls Tryz.prog 205 #[.string ⟨s.toArray⟩] w' (Ret w' (.int .i64 (pointV s)))) := h_ fun w' => pointB_call s w' hs
 generalize pointV s = pv at HP
 go_enter Tryz.func120, Tryz.ntmps120
 go_upto_region 1 with (fail)
 refine nA fun w1 hB0 hw1 hz1 => ?_
 have HB0 := h_ hB0
 have HW1 := h_ hw1
 clear hB0 hw1 hz1
 go_wp2_with fail
 refine (HP.out w1).mono ?_
 rintro e w2 ⟨rfl, hw2⟩
 have HB2 := h_ (HB0.out.below hw2)
 have HW2 := t_ HW1 hw2
 clear hw2 HB0 HW1
 go_upto_region 4 with (fail)
 go_loopw [7, 8, 9] (fun f i _ wr => (i = .int .i64 0 /\ f = .int .i64 (-1)) /\ wr = w2) (fun _ i _ _ => 0)
 case atStart => exact ⟨⟨rfl, rfl⟩, rfl⟩
 case round =>
  obtain ⟨⟨rfl, rfl⟩, rfl⟩ := hrel
  have p1 := HB2.out.cell 1 rfl
  go_wp2_with fail
  go_ret2
  exact ⟨rfl, HW2.out⟩
theorem replace20_zero (s1 s2 : Option Addr) (c1 k2 c2 : Nat) : ∀ (N : Nat) (x : X) (cs : List Value) (w : World), nodes x <= N -> N <= 1000000 -> shortX x -> XR w x cs ->
  Calls Tryz.prog 71 #[.agg #[.int .i64 0, .slice s1 0 c1, .slice s2 k2 c2], .agg cs.toArray] w (RepPost w (resR none [] x))
 | 0, x, _, _, h, _, _, _ => absurd (nodes_pos x) (by omega)
 | N + 1, .mk op int vk vi vs nm l, cs, w, hn, hN, hs, h => by
  rw [nodes] at hn
  rw [shortX] at hs
  have hlen := len_nodes l
  by_cases h3 : op = 3
  ·subst h3
   obtain ⟨ax, mx, rfl, _⟩ := h.lits
   rw [resR_name, nameR_zero]
   exact (replace20_nameV (-1) s1 s2 0 c1 k2 c2 ax l.length mx int vk vi vs nm w fun w' _ => resolve20_zero nm s1 s2 c1 k2 c2 w' (by omega)).mono fun e w' hp => by have := RepPost.name hp; rwa [if_pos (by decide)] at this
  ·by_cases h26 : op = 26
   ·subst h26
    obtain ⟨ax, mx, rfl, _⟩ := h.lits
    rw [resR_bound]
    exact (replace20_bound _ _ _ _ _ _ _ _ _ int vk vi vs nm w).mono fun e w' hp => RepPost.fail hp
   ·by_cases h25 : op = 25
    ·subst h25
     rw [resR_rel]
     cases l with
     | nil =>
      obtain ⟨ax, mx, rfl, _⟩ := h.lits
      exact (replace20_rel _ _ _ _ _ _ _ _ int vk vi vs nm w).mono fun e w' hp => RepPost.leaf (by decide) (by decide) hp
     | cons y l =>
      exact (replace20_relc _ _ _ _ _ _ int vk vi vs nm (y :: l) cs w (by simp) (by omega) h).mono fun e w' hp => RepPost.fail hp
    ·rw [resR_node h3 h26 h25]
     exact replace20_node none [] _ _ _ op int vk vi vs nm l cs w h3 h26 h25 (by omega) h fun k hk us w' hw hx =>
      replace20_zero s1 s2 c1 k2 c2 N l[k] us w' (by have := nodes_le (List.getElem_mem hk); omega) (by omega) (short_mem hs.2 (List.getElem_mem hk)) hx
/-- an expression bound in a scope without sources -/
theorem bind20_zero (x : X) (cs : List Value) (w : World) (hn : nodes x <= 1000000) (hs : shortX x) (hx : XR w x cs) : Calls Tryz.prog 40 #[.agg #[.int .i64 0, .slice none 0 0, .slice none 0 0], .agg cs.toArray] w (BindPost w (bindR [] (resR none [] x))) := by
 obtain ⟨h1, h2⟩ := resR_facts (tn := none) (cols := []) hn hs
 exact bind20_call _ _ none 0 [] (resR none [] x) cs x w (fun j n hj => by simp at hj) (by simp) hx h1 h2 fun w3 hw3 => replace20_zero none none 0 0 0 1000000 x cs w3 hn (Nat.le_refl _) hs (hx.kept hw3 (Nat.le_refl _))
def Sc0 (w : World) (gs : Nat) : Prop := ∃ b B, EC w gs 0 [.int .i64 0, .slice none 0 0, .slice none 0 0, .map (some b)] /\ Gps w B b 0 (.map [])
theorem Sc0.below {w w' : World} {gs : Nat} (h : Sc0 w gs) (hb : Below w.heap.size w w') : Sc0 w' gs := by
 obtain ⟨b, B, h1, h2⟩ := h
 exact ⟨b, B, ⟨Nat.lt_of_lt_of_le h1.1 hb.size, fun j u hj => h1.at_ hb hj⟩, h2.below hb⟩
theorem newScope0_call (w : World) : Calls Tryz.prog 31 #[.int .i64 0, .slice none 0 0] w fun e w' => ∃ gs, e = .returned (.pointer (some ⟨gs, 0, none⟩)) /\ Sc0 w' gs /\ Below w.heap.size w w' := by
 have hmm := @run_makeMap Tryz.prog
 go_enter Tryz.func31, Tryz.ntmps31
 go_upto_region 2 with (fail)
 refine name_map (K := Code.wp _ _ _ _) fun w1 hm1 hB1 hw1 hz1 => ?_
 have HP : Hid (Below w.heap.size w w1 /\ Sc0 w1 (w.heap.size + 1)) := h_ ⟨hw1, w.heap.size, w1.heap.size, EC.of_blk hB1, Gps.made hm1 (by omega)⟩
 clear hm1 hB1 hw1 hz1 hmm
 go_upto_region 3 with (fail)
 go_loopw [14] (fun i wr => i = .int .i64 0 /\ wr = w1) (fun i _ => 0)
 case atStart => exact ⟨rfl, rfl⟩
 case round =>
  obtain ⟨rfl, rfl⟩ := hrel
  go_wp2_with fail
  go_ret
  exact ⟨w.heap.size + 1, rfl, HP.out.2, HP.out.1⟩
theorem find_zero (s : S) (gs : Nat) (b : Value) (w : World) (he : EC w gs 0 [.int .i64 0, .slice none 0 0, .slice none 0 0, b]) :
  Calls Tryz.prog 202 #[.pointer (some ⟨gs, 0, none⟩), .string ⟨s.toArray⟩] w (Ret w (.tuple #[.agg #[.string ⟨#[]⟩, .string ⟨#[]⟩, .slice none 0 0, .slice none 0 0, .slice none 0 0, .slice none 0 0, .int .i64 0, .int .i64 0], .bool false])) := by
 have HE := h_ he
 clear he
 go_enter Tryz.func202, Tryz.ntmps202
 go_upto_region 1 with (fail)
 refine nA fun w1 hB0 hw1 hz1 => ?_
 have HB0 := h_ hB0
 have HW1 := h_ hw1
 clear hB0 hw1 hz1
 have p1 := HE.out.at_ HW1.out (j := 1) rfl
 go_upto_region 2 with (fail)
 go_loopw [13] (fun i wr => i = .int .i64 0 /\ wr = w1) (fun i _ => 0)
 case atStart => exact ⟨rfl, rfl⟩
 case round =>
  obtain ⟨rfl, rfl⟩ := hrel
  have HBr := HB0
  have HWr := HW1
  clear p1
  have r0 := HBr.out.cell 0 rfl
  have r1 := HBr.out.cell 1 rfl
  have r2 := HBr.out.cell 2 rfl
  have r3 := HBr.out.cell 3 rfl
  have r4 := HBr.out.cell 4 rfl
  have r5 := HBr.out.cell 5 rfl
  have r6 := HBr.out.cell 6 rfl
  have r7 := HBr.out.cell 7 rfl
  have f0 := HBr.out.free 0
  have f1 := HBr.out.free 1
  have f2 := HBr.out.free 2
  have f3 := HBr.out.free 3
  have f4 := HBr.out.free 4
  have f5 := HBr.out.free 5
  have f6 := HBr.out.free 6
  have f7 := HBr.out.free 7
  go_wp2_with fail
  refine name_set8 (K := fun w' => bodyPost _ _ _ _ _ w') HBr.out fun w9 hM => ?_
  exact bodyPost_ret (results_cell_tmp Tryz.results202 _ _ w.heap.size _ _ (0, 0) _ _ rfl rfl hM.blk Tryz.underlying201 (by kernel_rfl)) rfl ⟨rfl, HWr.out.trans hM.low⟩
theorem name_zero (s : S) (gs : Nat) (w : World) (hs : s.length < 4294967281) (hE : ∃ m, w.cell? ⟨0, 0, none⟩ = some (.int .i64 m)) (hsc : Sc0 w gs) :
  Calls Tryz.prog 115 #[.pointer (some ⟨gs, 0, none⟩), .string ⟨s.toArray⟩] w (Ret w (repT (-1))) := by
 obtain ⟨b, B, he, hg⟩ := hsc
 obtain ⟨mx, hmx⟩ := hE
 have HMX := h_ (fun (w' : World) (hw : Below w.heap.size w w') => (hw.cell (lt_of_cell hmx)).trans hmx)
 have HE := h_ he
 have HG := h_ hg
 have e46 : (ByteArray.mk #[46]).data.toList = [46] := rfl
 have hsl : s.length <= maxLen := by unfold maxLen; omega
 have HRUN : Hid (∀ w', Below w.heap.size w w' -> (Instr.lookup 155 (.map (some b)) (.string ⟨s.toArray⟩) false).run Tryz.prog w' = .ok (.slice none 0 0) w') := h_ fun w' hw => ((HG.out.below hw).fresh (by unfold maxLen; omega) hsl rfl).1
 cases hdot : hasDot s with
 | false =>
  have HCUT : Hid (∀ w', Below w.heap.size w w' -> Calls Tryz.prog 201 #[.string ⟨s.toArray⟩, .string ⟨#[46]⟩] w' fun e w'' => e = .returned (.tuple #[.string ⟨s.toArray⟩, .string ⟨#[]⟩, .bool false]) /\ ∃ n, w'' = w'.drewN n) := h_ fun w' hw => by
   have CC := Tryz.strings_Cut ⟨s.toArray⟩ ⟨#[46]⟩ mx w' (by rw [mkS]; exact hs) (HMX.out w' hw)
   rw [mkL, e46, cut_dot, hdot] at CC
   simpa using CC
  clear he hg hmx hdot e46 hsl
  go_enter Tryz.func115, Tryz.ntmps115
  go_upto_region 1 with (fail)
  refine nA fun w1 hB0 hw1 hz1 => ?_
  have HB0 := h_ hB0
  have HW1 := h_ hw1
  clear hB0 hw1 hz1
  go_wp2_with fail
  refine (HCUT.out w1 HW1.out).mono ?_
  rintro e w2 ⟨rfl, nd, hw2⟩
  have hb2 : Below w1.heap.size w1 w2 := by rw [hw2]; exact belowD w1 nd
  have HB2 := h_ (HB0.out.below hb2)
  have HW2 := t_ HW1 hb2
  clear hw2 hb2 HB0 HW1
  have p3 := HE.out.at_ HW2.out (j := 3) rfl
  have HT : Hid (repT (-1) = .tuple #[zeroV, .int .i64 11]) := h_ rfl
  have HRW := h_ (HRUN.out w2 HW2.out)
  go_upto_region 3 with (at_lookup; refine wpList_lookup_eq rfl rfl rfl rfl HRW.out ?_)
  have r0 := HB2.out.cell 0 rfl
  have f0 := HB2.out.free 0
  have r1 := HB2.out.cell 1 rfl
  have f1 := HB2.out.free 1
  have r2 := HB2.out.cell 2 rfl
  have f2 := HB2.out.free 2
  have r3 := HB2.out.cell 3 rfl
  have f3 := HB2.out.free 3
  have r4 := HB2.out.cell 4 rfl
  have f4 := HB2.out.free 4
  have r5 := HB2.out.cell 5 rfl
  have f5 := HB2.out.free 5
  have r6 := HB2.out.cell 6 rfl
  have f6 := HB2.out.free 6
  go_wp2_with fail
  refine name_set7 (K := fun w' => bodyPost _ _ _ _ _ w') HB2.out fun w9 hM => ?_
  exact bodyPost_ret (results_cell_tmp Tryz.results115 _ _ w.heap.size _ _ (0, 0) _ _ rfl rfl hM.blk Tryz.underlying31 (by kernel_rfl)) rfl ⟨by rw [HT.out]; rfl, HW2.out.trans hM.low⟩
 | true =>
  have HCUT : Hid (∀ w', Below w.heap.size w w' -> Calls Tryz.prog 201 #[.string ⟨s.toArray⟩, .string ⟨#[46]⟩] w' fun e w'' => e = .returned (.tuple #[.string ⟨(preDot s).toArray⟩, .string ⟨(postDot s).toArray⟩, .bool true]) /\ ∃ n, w'' = w'.drewN n) := h_ fun w' hw => by
   have CC := Tryz.strings_Cut ⟨s.toArray⟩ ⟨#[46]⟩ mx w' (by rw [mkS]; exact hs) (HMX.out w' hw)
   rw [mkL, e46, cut_dot, hdot] at CC
   simpa using CC
  generalize preDot s = pre at HCUT
  generalize postDot s = post at HCUT
  clear he hg hmx hdot e46 hsl
  go_enter Tryz.func115, Tryz.ntmps115
  go_upto_region 1 with (fail)
  refine nA fun w1 hB0 hw1 hz1 => ?_
  have HB0 := h_ hB0
  have HW1 := h_ hw1
  clear hB0 hw1 hz1
  go_wp2_with fail
  refine (HCUT.out w1 HW1.out).mono ?_
  rintro e w2 ⟨rfl, nd, hw2⟩
  have hb2 : Below w1.heap.size w1 w2 := by rw [hw2]; exact belowD w1 nd
  have HB2 := h_ (HB0.out.below hb2)
  have HW2 := t_ HW1 hb2
  clear hw2 hb2 HB0 HW1 HCUT
  have p3 := HE.out.at_ HW2.out (j := 3) rfl
  have HRW := h_ (HRUN.out w2 HW2.out)
  go_upto_region 3 with (at_lookup; refine wpList_lookup_eq rfl rfl rfl rfl HRW.out ?_)
  have hE2 : EC w2 gs 0 [.int .i64 0, .slice none 0 0, .slice none 0 0, .map (some b)] := ⟨Nat.lt_of_lt_of_le HE.out.1 HW2.out.size, fun j u hj => HE.out.at_ HW2.out hj⟩
  have HF := h_ (find_zero pre gs (.map (some b)) w2 hE2)
  have HT : Hid (repT (-1) = .tuple #[zeroV, .int .i64 11]) := h_ rfl
  clear hE2 HRW p3
  go_wp2_with fail
  refine HF.out.mono ?_
  rintro e w3 ⟨rfl, hw3⟩
  have HB3 := h_ (HB2.out.below hw3)
  have HW3 := t_ HW2 hw3
  clear hw3 HB2 HW2 HF
  go_upto_region 5 with (fail)
  refine nA fun w4 hB4 hw4 hsz4 => ?_
  have HB4 := h_ (HB3.out.below hw4)
  have HX4 := h_ hB4
  have HW4 := t_ HW3 hw4
  clear hB4 hw4 hsz4 HB3 HW3
  have x2 := HX4.out.cell 2 rfl
  go_upto_region 7 with (fail)
  go_loopw [9, 37] (fun v i wr => v = .slice none 0 0 /\ i = .int .i64 0 /\ wr = w4) (fun _ _ _ => 0)
  case atStart => exact ⟨rfl, rfl, rfl⟩
  case round =>
   obtain ⟨rfl, rfl, rfl⟩ := hrel
   obtain ⟨r0, r1, r2, r3, r4, r5, r6, f0, f1, f2, f3, f4, f5, f6⟩ := HB4.out.f7
   go_wp2_with fail
   refine name_set7 (K := fun w' => bodyPost _ _ _ _ _ w') HB4.out fun w9 hM => ?_
   exact bodyPost_ret (results_cell_tmp Tryz.results115 _ _ w.heap.size _ _ (0, 0) _ _ rfl rfl hM.blk Tryz.underlying31 (by kernel_rfl)) rfl ⟨by rw [HT.out]; rfl, HW4.out.trans hM.low⟩
/-- an expression bound in a scope without sources -/
theorem bind_zero (x : X) (cs : List Value) (w : World) (gs : Nat) (hn : nodes x <= 1000000) (hs : shortX x) (hx : XR w x cs) (hE : ∃ m, w.cell? ⟨0, 0, none⟩ = some (.int .i64 m)) (hsc : Sc0 w gs) : Calls Tryz.prog 37 #[.pointer (some ⟨gs, 0, none⟩), .agg cs.toArray] w (BindPost w (bindR [] (resR none [] x))) := by
 obtain ⟨mx, hmx⟩ := hE
 have hsc0 := hsc
 obtain ⟨b, B, he, hg⟩ := hsc
 obtain ⟨h1, h2⟩ := resR_facts (tn := none) (cols := []) hn hs
 refine bind_call gs _ _ none 0 [] (resR none [] x) cs x w he (fun j n hj => by simp at hj) (by simp) hx h1 h2 fun w3 hw3 => ?_
 exact resolve_call none [] gs _ _ _ (fun _ => -1) w (fun s => by rw [nameR_zero]; rfl) (fun s w' hss hw' => name_zero s gs w' hss ⟨mx, (hw'.cell (lt_of_cell hmx)).trans hmx⟩ (hsc0.below hw')) 1000000 x cs w3 hn (Nat.le_refl _) hs hw3 ⟨Nat.lt_of_lt_of_le he.1 hw3.size, fun j u hj => he.at_ hw3 hj⟩ (hx.kept hw3 (Nat.le_refl _))
end Go.Proofs.YtnlimlboedohgaaGreatDoor.Px
