import Derived.Test.YtnlimlboedohgaaGreatDoorPxQ
import Derived.Test.YtnlimlboedohgaaGreatDoorPxS
import Derived.Test.YtnlimlboedohgaaGreatDoorGrA
import Derived.Test.YtnlimlboedohgaaGreatDoorLbEnv
/-
  Which expressions are printable: the program's function. (Printed by gen_pxok.py.)
-/
set_option maxHeartbeats 20000000
set_option maxRecDepth 100000
namespace Go.Proofs.YtnlimlboedohgaaGreatDoor.Px
open Go Go.RowKit Go.Proofs.YtnlimlboedohgaaGreatDoor.Ps
set_option linter.unusedVariables false
set_option linter.unusedSimpArgs false
mutual
/-- names short enough for strings.Cut's contract -/
def shortX : X -> Prop
 | .mk _ _ _ _ vs nm l => (vs.length < 4294967281 /\ nm.length < 4294967281) /\ shortL l
def shortL : List X -> Prop
 | [] => True
 | x :: l => shortX x /\ shortL l
end
theorem short_mem {x : X} : ∀ {l : List X}, shortL l -> x ∈ l -> shortX x
 | y :: l, h, hm => by
  rw [shortL] at h
  rcases List.mem_cons.1 hm with rfl | hm
  ·exact h.1
  ·exact short_mem h.2 hm
theorem Blk.low {w w' : World} {g n : Nat} {cs : List Value} {t : TypeId} (h : Blk w g cs t) (hb : Below n w w') (hg : g < n) : Blk w' g cs t := (hb.block _ hg).trans h
theorem below_set {w : World} {g k n : Nat} {u : Value} (hn : n <= g) : Below n w (w.setCell ⟨g, k, none⟩ u) :=
 ⟨rfl, rfl, rfl, by simp [World.setCell], fun i hi => Below.heap_setCell w _ u i (by show i ≠ g; omega)⟩
structure JS (w3 : World) (g k s : Nat) (u : Value) (cs : List Value) (d : Array Bool) (w' : World) : Prop where
 low : Below g w3 w'
 blk : ∃ c : Value, Blk w' g (cs.set k c) 31 /\ (d[s]? = some true -> c = u)
theorem JS.keep {w3 : World} {g k s : Nat} {u : Value} {cs : List Value} {d : Array Bool} {w' : World} (h : JS w3 g k s u cs d w') (i : Nat) (h1 : i ≠ s) : JS w3 g k s u cs (d.setIfInBounds i true) w' := by
 obtain ⟨c, hb, a1⟩ := h.blk
 refine ⟨h.low, c, hb, ?_⟩
 rw [Array.getElem?_setIfInBounds_ne h1]; exact a1
theorem JS.grow {w3 : World} {g k s : Nat} {u : Value} {cs : List Value} {d : Array Bool} {w' w'' : World} (h : JS w3 g k s u cs d w') (hb : Below w'.heap.size w' w'') : JS w3 g k s u cs d w'' := by
 obtain ⟨c, hb5, a1⟩ := h.blk
 exact ⟨h.low.trans (hb.mono (Nat.le_of_lt hb5.lt)), c, hb5.below hb, a1⟩
theorem JS.put {w3 : World} {g k s : Nat} {u : Value} {cs : List Value} {d : Array Bool} {w' : World} (h : JS w3 g k s u cs d w') : JS w3 g k s u cs (d.setIfInBounds s true) (w'.setCell ⟨g, k, none⟩ u) := by
 obtain ⟨c, hb5, a1⟩ := h.blk
 refine ⟨h.low.trans (below_set (Nat.le_refl _)), u, ?_, fun _ => rfl⟩
 have := hb5.set k u
 rwa [List.set_set] at this
structure J26 (w3 : World) (g : Nat) (int : Int) (nm : S) (d : Array Bool) (w' : World) : Prop where
 low : Below g w3 w'
 blk : ∃ c1 c5 : Value, Blk w' g [.int .i64 26, c1, .int .i64 0, .int .i64 0, .string ⟨#[]⟩, c5, .slice none 0 0] 31 /\ (d[14]? = some true -> c5 = .string ⟨nm.toArray⟩) /\ (d[16]? = some true -> c1 = .int .i64 int)
theorem J26.keep {w3 : World} {g : Nat} {int : Int} {nm : S} {d : Array Bool} {w' : World} (h : J26 w3 g int nm d w') (i : Nat) (h1 : i ≠ 14) (h2 : i ≠ 16) : J26 w3 g int nm (d.setIfInBounds i true) w' := by
 obtain ⟨c1, c5, hb, a1, a2⟩ := h.blk
 refine ⟨h.low, c1, c5, hb, ?_, ?_⟩
 ·rw [Array.getElem?_setIfInBounds_ne h1]; exact a1
 ·rw [Array.getElem?_setIfInBounds_ne h2]; exact a2
theorem J26.grow {w3 : World} {g : Nat} {int : Int} {nm : S} {d : Array Bool} {w' w'' : World} (h : J26 w3 g int nm d w') (hb : Below w'.heap.size w' w'') : J26 w3 g int nm d w'' := by
 obtain ⟨c1, c5, hb5, a1, a2⟩ := h.blk
 exact ⟨h.low.trans (hb.mono (Nat.le_of_lt hb5.lt)), c1, c5, hb5.below hb, a1, a2⟩
theorem ext_pre (s : S) : (ByteArray.mk s.toArray).extract 0 (preDot s).length = ⟨(preDot s).toArray⟩ := by
 apply bytes_ext
 rw [ByteArray.data_extract, Array.toList_extract, List.extract_eq_take_drop]
 simp [pre_take]
theorem ext_post (s : S) : (ByteArray.mk s.toArray).extract ((preDot s).length + 1) s.length = ⟨(postDot s).toArray⟩ := by
 apply bytes_ext
 rw [ByteArray.data_extract, Array.toList_extract, List.extract_eq_take_drop]
 simp only [postDot]
 rw [List.take_of_length_le (by simp)]
theorem dot_lt {s : S} (h : hasDot s = true) : (preDot s).length + 1 <= s.length := by
 have h1 : preDot s <+: s := List.takeWhile_prefix _
 have hl := h1.length_le
 rcases Nat.lt_or_ge (preDot s).length s.length with h2 | h2
 ·omega
 ·have e : preDot s = s := by rw [<- pre_take s, List.take_of_length_le h2]
  unfold hasDot at h
  have hm : (46 : UInt8) ∈ s := by simpa using h
  rw [<- e] at hm
  have h3 : (s.takeWhile (fun c => c != 46)).all (fun c => c != 46) = true := List.all_takeWhile
  have := List.all_eq_true.1 h3 _ hm
  simp at this
theorem qualified_call (s : S) (w : World) (hs : s.length <= 140737488351232) : Calls Tryz.prog 177 #[.string ⟨s.toArray⟩] w (Ret w (.bool (refB s))) := by
 have hsz := mkS s
 cases hd : hasDot s with
 | false =>
  have hp := point_call s w hs
  have e : pointV s = -1 := by unfold pointV; rw [hd]; rfl
  rw [e] at hp
  have HP := h_ hp
  have HR : Hid (refB s = nameB s) := h_ (by unfold refB; rw [hd]; rfl)
  clear hp e hd
  go_enter Tryz.func177, Tryz.ntmps177
  go_wp2_with fail
  refine HP.out.mono ?_
  rintro e w1 ⟨rfl, hb1⟩
  have HB := h_ hb1
  clear hb1
  go_wp2_with fail
  refine (rname_at s w1).mono ?_
  rintro e w2 ⟨rfl, hb2⟩
  have HB2 := t_ HB hb2
  clear hb2
  go_wp2_with fail
  go_ret
  exact ⟨by rw [HR.out]; rfl, HB2.out⟩
 | true =>
  have hp := point_call s w hs
  have e : pointV s = ((preDot s).length : Int) := by unfold pointV; rw [hd]; rfl
  rw [e] at hp
  have HP := h_ hp
  have HR : Hid (refB s = (nameB (preDot s) && nameB (postDot s))) := h_ (by unfold refB; rw [hd]; rfl)
  have hlt := dot_lt hd
  have x1 := ext_pre s
  have x2 := ext_post s
  clear hp e hd
  generalize postDot s = b at HR x2
  generalize hpq : preDot s = a at HR x1 x2 HP hlt
  have n0 : (0 : Int) <= (a.length : Int) := by omega
  have n1 : (a.length : Int) <= (s.length : Int) := by omega
  have n2 : (a.length : Int) + 1 <= (s.length : Int) := by omega
  clear hpq
  go_enter Tryz.func177, Tryz.ntmps177
  go_wp2_with fail
  refine HP.out.mono ?_
  rintro e w1 ⟨rfl, hb1⟩
  have HB := h_ hb1
  clear hb1 HP
  go_wp2_with fail
  refine (rname_at a w1).mono ?_
  rintro e w2 ⟨rfl, hb2⟩
  have HB2 := t_ HB hb2
  clear hb2
  cases hn : nameB a <;> go_wp2_with fail
  ·go_ret
   exact ⟨by rw [HR.out, hn]; rfl, HB2.out⟩
  ·refine (rname_at b w2).mono ?_
   rintro e w3 ⟨rfl, hb3⟩
   have HB3 := t_ HB2 hb3
   clear hb3
   go_wp2_with fail
   go_ret
   exact ⟨by rw [HR.out, hn]; rfl, HB3.out⟩
theorem point_neg (s : S) : decide (pointV s < 0) = !hasDot s := by
 unfold pointV
 cases hasDot s with
 | false => rfl
 | true => simp
theorem table_call {x : X} {cs : List Value} {w : World} (h : XR w x cs) (hs : x.nm.length < 4294967281) : Calls Tryz.prog 178 #[.agg cs.toArray] w (Ret w (.bool (tableB x))) := by
 obtain ⟨op, int, vk, vi, vs, nm, l⟩ := x
 obtain ⟨a, m, rfl, _⟩ := h.lits
 have hs' : nm.length <= 140737488351232 := by have : nm.length < 4294967281 := hs; omega
 have hpn := point_neg nm
 have HT : Hid (tableB (.mk op int vk vi vs nm l) = (decide (op = 3) && !hasDot nm)) := h_ rfl
 have HP := h_ fun w' => point_call nm w' hs'
 generalize pointV nm = V at hpn HP
 clear h hs hs'
 go_enter Tryz.func178, Tryz.ntmps178
 go_upto_region 1 with (fail)
 refine nA fun w1 hB hw1 hz1 => ?_
 have p0 := hB.cell 0 rfl
 have p5 := hB.cell 5 rfl
 have HW := h_ hw1
 clear hB hw1
 by_cases h3 : op = 3
 ·subst h3
  go_wp2_with fail
  refine (HP.out w1).mono ?_
  rintro e w2 ⟨rfl, hw2⟩
  have HW2 := t_ HW hw2
  clear hw2
  go_wp2_with fail
  all_goals (go_ret; refine ⟨congrArg (fun z => Ending.returned (.bool z)) ?_, HW2.out⟩; rw [HT.out, <- hpn]; simp_all)
 ·have h3b : (op == 3) = false := by simpa using h3
  go_wp2_with fail
  go_ret
  exact ⟨by rw [HT.out, decide_eq_false h3]; rfl, HW.out⟩
theorem formed_call {x : X} {cs : List Value} {w : World} (h : XR w x cs) (hv : ∀ op int vk vi vs nm l, x = .mk op int vk vi vs nm l -> op ≠ 2 /\ op ≠ 24 /\ vs.length < 4294967281) :
  ∀ op int vk vi vs nm l, x = .mk op int vk vi vs nm l -> Calls Tryz.prog 138 #[.agg cs.toArray] w (Ret w (.bool (formedB op int vk vi vs nm l.length))) := by
 rintro op int vk vi vs nm l rfl
 obtain ⟨h2, h24, hvs⟩ := hv _ _ _ _ _ _ _ rfl
 obtain ⟨a, m, rfl, hl, _, _, hlen⟩ := h.lits
 have hem := mkE vs
 have hemn := mkE nm
 have h2b : (op == 2) = false := by simpa using h2
 have h24b : (op == 24) = false := by simpa using h24
 have HVS : Hid (vs.length <= 140737488351232) := h_ (by omega)
 clear h hv hl h2 h24 hvs
 have HPK : Hid (formedB op int vk vi vs nm l.length = ((!decide ((arity op).1 < 0) && (!decide ((l.length : Int) < (arity op).1) && (!decide ((arity op).2 < (l.length : Int)) && nm.isEmpty))) && (if op = 1 then decide (int = 0) && validV vk vi vs else decide (int = 0) && nullV vk vi vs))) := h_ rfl
 generalize formedB op int vk vi vs nm l.length = ANS at HPK |-
 go_enter Tryz.func138, Tryz.ntmps138
 go_upto_region 1 with (fail)
 refine nA fun w1 hB hw1 hz1 => ?_
 have HW := h_ hw1
 have HBk := h_ hB
 have p0 := hB.cell 0 rfl
 clear hB hw1
 go_wp2_with fail
 refine (arity_call op w1).mono ?_
 rintro e w3 ⟨rfl, hw2⟩
 have HB3 := h_ (HBk.out.below hw2)
 have HW3 := t_ HW hw2
 clear hw2 p0 HBk HW
 have p0 := HB3.out.cell 0 rfl
 have p5 := HB3.out.cell 5 rfl
 have p6 := HB3.out.cell 6 rfl
 generalize (arity op).1 = lo at HPK |-
 generalize (arity op).2 = hi at HPK |-
 by_cases c1 : lo < 0
 ·have HF : Hid (ANS = false) := h_ (by rw [HPK.out, decide_eq_true c1]; rfl)
  go_wp2_with fail
  go_ret
  exact ⟨by rw [HF.out]; rfl, HW3.out⟩
 by_cases c2 : (l.length : Int) < lo
 ·have HF : Hid (ANS = false) := h_ (by rw [HPK.out, decide_eq_false c1, decide_eq_true c2]; rfl)
  go_wp2_with fail
  go_ret
  exact ⟨by rw [HF.out]; rfl, HW3.out⟩
 by_cases c3 : hi < (l.length : Int)
 ·have HF : Hid (ANS = false) := h_ (by rw [HPK.out, decide_eq_false c1, decide_eq_false c2, decide_eq_true c3]; rfl)
  go_wp2_with fail
  go_ret
  exact ⟨by rw [HF.out]; rfl, HW3.out⟩
 cases hn : nm.isEmpty with
 | false =>
  rw [hn] at hemn
  have HF : Hid (ANS = false) := h_ (by rw [HPK.out, decide_eq_false c1, decide_eq_false c2, decide_eq_false c3, hn]; rfl)
  go_wp2_with fail
  go_ret
  exact ⟨by rw [HF.out]; rfl, HW3.out⟩
 | true =>
  rw [hn] at hemn
  have HPK2 : Hid (ANS = (if op = 1 then decide (int = 0) && validV vk vi vs else decide (int = 0) && nullV vk vi vs)) := h_ (by rw [HPK.out, decide_eq_false c1, decide_eq_false c2, decide_eq_false c3, hn]; rfl)
  clear HPK
  have HPK := HPK2
  clear HPK2
  by_cases h1 : op = 1
  ·subst h1
   have p1 := HB3.out.cell 1 rfl
   have p2 := HB3.out.cell 2 rfl
   have p3 := HB3.out.cell 3 rfl
   have p4 := HB3.out.cell 4 rfl
   by_cases hi0 : int = 0
   ·subst hi0
    have HF : Hid (ANS = validV vk vi vs) := h_ (by rw [HPK.out]; rfl)
    go_wp2_with fail
    refine (rvalid_call vk vi vs w3 HVS.out).mono ?_
    rintro e w4 ⟨rfl, hw4⟩
    have HW4 := t_ HW3 hw4
    clear hw4
    go_wp2_with fail
    go_ret
    exact ⟨by rw [HF.out]; rfl, HW4.out⟩
   ·have hib : (int == 0) = false := by simpa using hi0
    have HF : Hid (ANS = false) := h_ (by rw [HPK.out, if_pos rfl, decide_eq_false hi0]; rfl)
    go_wp2_with fail
    go_ret
    exact ⟨by rw [HF.out]; rfl, HW3.out⟩
  ·have h1b : (op == 1) = false := by simpa using h1
   rw [if_neg h1] at HPK
   go_upto_region 11 with (fail)
   have hb0 : Below w3.heap.size w3 { w3 with drawn := w3.drawn + 1 } := belowD w3 1
   refine Gr.region_grow 9 (by kernel_rfl) (by kernel_rfl) (fun w' => Below w3.heap.size w3 w') hb0 ?_
   simp only [List.take_succ_cons, List.take_zero, List.drop_succ_cons, List.drop_zero]
   clear p0 hb0
   iterate 2
    first
    | apply Gr.sn; focus (go_simp; intro w' hw'; go_simp; rw [Gr.grown_value]; done)
    | apply Gr.sn; focus (go_simp; intro w' hw'; have p1 := (HB3.out.below hw').cell 1 rfl; go_simp; rw [Gr.grown_value]; done)
    intro K hK; go_simp; refine hK _ ?_; clear hK K
   by_cases hi0 : int = 0
   ·subst hi0
    iterate 5
     first
     | apply Gr.sn (.agg #[.int .i64 0, .int .i64 0, .string ⟨#[]⟩]); focus (go_simp; intro w' hw'; go_simp; rw [Gr.grown_enter]; exact Ret.fam (null_call w') hw'; done)
     | apply Gr.sn; focus (go_simp; intro w' hw'; go_simp; rw [Gr.grown_value]; done)
     | apply Gr.sn; focus (go_simp; intro w' hw'; have p2 := (HB3.out.below hw').cell 2 rfl; have p3 := (HB3.out.below hw').cell 3 rfl; have p4 := (HB3.out.below hw').cell 4 rfl; go_simp; rw [Gr.grown_value]; done)
     intro K hK; go_simp; refine hK _ ?_; clear hK K
    have hem2 := hem
    by_cases hk : vk = 0 <;> by_cases hj : vi = 0 <;> cases he : vs.isEmpty <;> rw [he] at hem
    all_goals
     iterate 2
      refine Gr.sn _ (by go_simp; intro w' hw'; go_simp; rw [Gr.grown_value]) fun K hK => ?_; go_simp; refine hK _ ?_; clear hK K
     refine Gr.line_nil fun w4 hw4 => ?_
     have HW4 := t_ HW3 hw4
     clear hw4
     go_wp2_with fail
     go_ret
     refine ⟨congrArg (fun z => Ending.returned (.bool z)) ?_, HW4.out⟩
     rw [HPK.out]; clear HPK; simp_all [nullV]
   ·have hib : (int == 0) = false := by simpa using hi0
    iterate 7
     first
     | apply Gr.sn undef; focus (go_simp; done)
     | apply Gr.sn; focus (go_simp; intro w' hw'; go_simp; rw [Gr.grown_value]; done)
     intro K hK; go_simp; refine hK _ ?_; clear hK K
    refine Gr.line_nil fun w4 hw4 => ?_
    have HW4 := t_ HW3 hw4
    clear hw4
    go_wp2_with fail
    go_ret
    refine ⟨congrArg (fun z => Ending.returned (.bool z)) ?_, HW4.out⟩
    rw [HPK.out]; clear HPK; simp_all [nullV]
/-- some cells that lie one behind the other -/
def EC (w : World) (g o : Nat) (cs : List Value) : Prop := g < w.heap.size /\ ∀ (j : Nat) (u : Value), cs[j]? = some u -> w.cell? ⟨g, o + j, none⟩ = some u
theorem EC.at_ {w w' : World} {g o : Nat} {cs : List Value} (h : EC w g o cs) (hb : Below w.heap.size w w') {j : Nat} {u : Value} (hj : cs[j]? = some u) : w'.cell? ⟨g, o + j, none⟩ = some u := (hb.cell (p := ⟨g, o + j, none⟩) h.1).trans (h.2 j u hj)
theorem EC.at0 {w w' : World} {g o : Nat} {cs : List Value} (h : EC w g o cs) (hb : Below w.heap.size w w') {u : Value} (hj : cs[0]? = some u) : w'.cell? ⟨g, o, none⟩ = some u := h.at_ hb hj
theorem EC.c7 {w w' : World} {g o : Nat} {a0 a1 a2 a3 a4 a5 a6 : Value} (h : EC w g o [a0, a1, a2, a3, a4, a5, a6]) (hb : Below w.heap.size w w') : w'.cell? ⟨g, o, none⟩ = some a0 /\ w'.cell? ⟨g, o + 1, none⟩ = some a1 /\ w'.cell? ⟨g, o + 2, none⟩ = some a2 /\ w'.cell? ⟨g, o + 3, none⟩ = some a3 /\ w'.cell? ⟨g, o + 4, none⟩ = some a4 /\ w'.cell? ⟨g, o + 5, none⟩ = some a5 /\ w'.cell? ⟨g, o + 6, none⟩ = some a6 := ⟨h.at0 hb rfl, h.at_ hb (j := 1) rfl, h.at_ hb (j := 2) rfl, h.at_ hb (j := 3) rfl, h.at_ hb (j := 4) rfl, h.at_ hb (j := 5) rfl, h.at_ hb (j := 6) rfl⟩
theorem len2o {l : List X} (h : l.length = 2) : ∃ a b, l = [a, b] := by
 match l, h with
 | [a, b], _ => exact ⟨a, b, rfl⟩
theorem XL.ec {w : World} {l : List X} {a : Option Addr} {n m k : Nat} (h : XL w l (.slice a n m)) (hk : k < n) : ∃ g o us, a = some ⟨g, o, none⟩ /\ EC w g (o + k * 7) us /\ ∃ hx : k < l.length, XR w l[k] us := by
 obtain ⟨b, o, us, h1, h2, h3, hx, h4⟩ := h.at_ hk
 exact ⟨b, o, us, h1, ⟨h2, h3⟩, hx, h4⟩
theorem own_name_nil (int vk vi : Int) (vs nm : S) (cs : List Value) (w : World) (hvs : vs.length < 4294967281 /\ nm.length < 4294967281) (h : XR w (.mk 3 int vk vi vs nm []) cs) : Calls Tryz.prog 98 #[.agg cs.toArray] w (Ret w (.bool (ownB 3 int vk vi vs nm []))) := by
 have hnv : nm.length <= 140737488351232 := by omega
 have HPK : Hid (ownB 3 int vk vi vs nm [] = (decide (int = 0) && (nullV vk vi vs && (decide (([] : List X).length = 0) && refB nm)))) := h_ rfl
 generalize ownB 3 int vk vi vs nm [] = ANS at HPK |-
 have HLN : Hid (decide (([] : List X).length = 0) = true) := h_ (rfl)
 have hem := mkE vs
 have hemn := mkE nm
 have hlen0 := h.lits
 obtain ⟨a, m, rfl, hl, _, _, hlen⟩ := hlen0
 clear h
 have HL := h_ hl
 clear hl
 go_enter Tryz.func98, Tryz.ntmps98
 go_upto_region 1 with (fail)
 refine nA fun w1 hB hw1 hz1 => ?_
 have HW := h_ hw1
 have HBk := h_ hB
 have p0 := hB.cell 0 rfl
 clear hB hw1 hz1
 go_upto_region 3 with (fail)
 have hb0 : Below w1.heap.size w1 { w1 with drawn := w1.drawn + 1 } := belowD w1 1
 refine Gr.region_grow 20 (by kernel_rfl) (by kernel_rfl) (fun w' => Below w1.heap.size w1 w') hb0 ?_
 simp only [List.take_succ_cons, List.take_zero, List.drop_succ_cons, List.drop_zero]
 clear p0 hb0
 iterate 3
  first
  | apply Gr.sn (.bool (decide (int = 0))); focus ((go_simp; intro w' hw'; go_simp; rw [Gr.grown_value]; all_goals ((first | rfl | (refine congrArg Value.bool ?_; first | rfl | simp | (rw [Bool.eq_iff_iff]; simp; omega))))); done)
  | apply Gr.sn; focus (go_simp; intro w' hw'; go_simp; rw [Gr.grown_value]; done)
  | apply Gr.sn; focus (go_simp; intro w' hw'; have p1 := (HBk.out.below hw').cell 1 rfl; go_simp; rw [Gr.grown_value]; done)
  intro K hK; go_simp; refine hK _ ?_; clear hK K
 cases hB : decide (int = 0)
 ·have HB0 := h_ hB
  clear hB
  iterate 17
   first
   | apply Gr.sn undef; focus (go_simp; done)
   | apply Gr.sn; focus (go_simp; intro w' hw'; go_simp; rw [Gr.grown_value]; done)
   intro K hK; go_simp; refine hK _ ?_; clear hK K
  refine Gr.line_nil fun w4 hw4 => ?_
  have HW4 := t_ HW hw4
  clear hw4
  go_wp2_with fail
  go_ret
  refine ⟨congrArg (fun z => Ending.returned (.bool z)) ?_, HW4.out⟩
  rw [HPK.out, HB0.out]
  try rfl
 ·have HB0 := h_ hB
  clear hB
  iterate 5
   first
   | apply Gr.sn (.agg #[.int .i64 0, .int .i64 0, .string ⟨#[]⟩]); focus (go_simp; intro w' hw'; go_simp; rw [Gr.grown_enter]; exact Ret.fam (null_call w') hw'; done)
   | apply Gr.sn (.bool (nullV vk vi vs)); focus (go_simp; intro w' hw'; go_simp; by_cases z1 : vk = 0 <;> by_cases z2 : vi = 0 <;> by_cases z3 : vs = [] <;> simp [z1, z2, z3, Gr.grown_value, nullV]; done)
   | apply Gr.sn; focus (go_simp; intro w' hw'; go_simp; rw [Gr.grown_value]; done)
   | apply Gr.sn; focus (go_simp; intro w' hw'; have p2 := (HBk.out.below hw').cell 2 rfl; have p3 := (HBk.out.below hw').cell 3 rfl; have p4 := (HBk.out.below hw').cell 4 rfl; go_simp; rw [Gr.grown_value]; done)
   intro K hK; go_simp; refine hK _ ?_; clear hK K
  cases hB : nullV vk vi vs
  ·have HB1 := h_ hB
   clear hB
   iterate 12
    first
    | apply Gr.sn undef; focus (go_simp; done)
    | apply Gr.sn; focus (go_simp; intro w' hw'; go_simp; rw [Gr.grown_value]; done)
    intro K hK; go_simp; refine hK _ ?_; clear hK K
   refine Gr.line_nil fun w4 hw4 => ?_
   have HW4 := t_ HW hw4
   clear hw4
   go_wp2_with fail
   go_ret
   refine ⟨congrArg (fun z => Ending.returned (.bool z)) ?_, HW4.out⟩
   rw [HPK.out, HB0.out, HB1.out]
   try rfl
  ·have HB1 := h_ hB
   clear hB
   iterate 11
    first
    | apply Gr.sn (.bool (refB nm)); focus (go_simp; intro w' hw'; go_simp; rw [Gr.grown_enter]; exact Ret.fam (qualified_call nm w' hnv) hw'; done)
    | apply Gr.sn; focus (go_simp; intro w' hw'; go_simp; rw [Gr.grown_value]; done)
    | apply Gr.sn; focus (go_simp; intro w' hw'; have p6 := (HBk.out.below hw').cell 6 rfl; go_simp; rw [Gr.grown_value]; done)
    | apply Gr.sn; focus (go_simp; intro w' hw'; have p5 := (HBk.out.below hw').cell 5 rfl; go_simp; rw [Gr.grown_value]; done)
    intro K hK; go_simp; refine hK _ ?_; clear hK K
   cases hB : refB nm
   ·have HB3 := h_ hB
    clear hB
    refine Gr.sn _ (by go_simp; intro w' hw'; go_simp; rw [Gr.grown_value]) fun K hK => ?_; go_simp; refine hK _ ?_; clear hK K
    refine Gr.line_nil fun w4 hw4 => ?_
    have HW4 := t_ HW hw4
    clear hw4
    go_wp2_with fail
    go_ret
    refine ⟨congrArg (fun z => Ending.returned (.bool z)) ?_, HW4.out⟩
    rw [HPK.out, HB0.out, HB1.out, HLN.out, HB3.out]
    try rfl
   ·have HB3 := h_ hB
    clear hB
    refine Gr.sn _ (by go_simp; intro w' hw'; go_simp; rw [Gr.grown_value]) fun K hK => ?_; go_simp; refine hK _ ?_; clear hK K
    refine Gr.line_nil fun w4 hw4 => ?_
    have HW4 := t_ HW hw4
    clear hw4
    go_wp2_with fail
    go_ret
    refine ⟨congrArg (fun z => Ending.returned (.bool z)) ?_, HW4.out⟩
    rw [HPK.out, HB0.out, HB1.out, HLN.out, HB3.out]
    try rfl
theorem own_name_cons (int vk vi : Int) (vs nm : S) (l : List X) (hne : l ≠ []) (cs : List Value) (w : World) (hvs : vs.length < 4294967281 /\ nm.length < 4294967281) (h : XR w (.mk 3 int vk vi vs nm l) cs) : Calls Tryz.prog 98 #[.agg cs.toArray] w (Ret w (.bool (ownB 3 int vk vi vs nm l))) := by
 have hnv : nm.length <= 140737488351232 := by omega
 have HPK : Hid (ownB 3 int vk vi vs nm l = (decide (int = 0) && (nullV vk vi vs && (decide ((l : List X).length = 0) && refB nm)))) := h_ rfl
 generalize ownB 3 int vk vi vs nm l = ANS at HPK |-
 have HLN : Hid (decide ((l : List X).length = 0) = false) := h_ (decide_eq_false fun e => hne (List.eq_nil_of_length_eq_zero e))
 have hem := mkE vs
 have hemn := mkE nm
 have hlen0 := h.lits
 obtain ⟨a, m, rfl, hl, _, _, hlen⟩ := hlen0
 clear h
 have HL := h_ hl
 clear hl
 go_enter Tryz.func98, Tryz.ntmps98
 go_upto_region 1 with (fail)
 refine nA fun w1 hB hw1 hz1 => ?_
 have HW := h_ hw1
 have HBk := h_ hB
 have p0 := hB.cell 0 rfl
 clear hB hw1 hz1
 go_upto_region 3 with (fail)
 have hb0 : Below w1.heap.size w1 { w1 with drawn := w1.drawn + 1 } := belowD w1 1
 refine Gr.region_grow 20 (by kernel_rfl) (by kernel_rfl) (fun w' => Below w1.heap.size w1 w') hb0 ?_
 simp only [List.take_succ_cons, List.take_zero, List.drop_succ_cons, List.drop_zero]
 clear p0 hb0
 iterate 3
  first
  | apply Gr.sn (.bool (decide (int = 0))); focus ((go_simp; intro w' hw'; go_simp; rw [Gr.grown_value]; all_goals ((first | rfl | (refine congrArg Value.bool ?_; first | rfl | simp | (rw [Bool.eq_iff_iff]; simp; omega))))); done)
  | apply Gr.sn; focus (go_simp; intro w' hw'; go_simp; rw [Gr.grown_value]; done)
  | apply Gr.sn; focus (go_simp; intro w' hw'; have p1 := (HBk.out.below hw').cell 1 rfl; go_simp; rw [Gr.grown_value]; done)
  intro K hK; go_simp; refine hK _ ?_; clear hK K
 cases hB : decide (int = 0)
 ·have HB0 := h_ hB
  clear hB
  iterate 17
   first
   | apply Gr.sn undef; focus (go_simp; done)
   | apply Gr.sn; focus (go_simp; intro w' hw'; go_simp; rw [Gr.grown_value]; done)
   intro K hK; go_simp; refine hK _ ?_; clear hK K
  refine Gr.line_nil fun w4 hw4 => ?_
  have HW4 := t_ HW hw4
  clear hw4
  go_wp2_with fail
  go_ret
  refine ⟨congrArg (fun z => Ending.returned (.bool z)) ?_, HW4.out⟩
  rw [HPK.out, HB0.out]
  try rfl
 ·have HB0 := h_ hB
  clear hB
  iterate 5
   first
   | apply Gr.sn (.agg #[.int .i64 0, .int .i64 0, .string ⟨#[]⟩]); focus (go_simp; intro w' hw'; go_simp; rw [Gr.grown_enter]; exact Ret.fam (null_call w') hw'; done)
   | apply Gr.sn (.bool (nullV vk vi vs)); focus (go_simp; intro w' hw'; go_simp; by_cases z1 : vk = 0 <;> by_cases z2 : vi = 0 <;> by_cases z3 : vs = [] <;> simp [z1, z2, z3, Gr.grown_value, nullV]; done)
   | apply Gr.sn; focus (go_simp; intro w' hw'; go_simp; rw [Gr.grown_value]; done)
   | apply Gr.sn; focus (go_simp; intro w' hw'; have p2 := (HBk.out.below hw').cell 2 rfl; have p3 := (HBk.out.below hw').cell 3 rfl; have p4 := (HBk.out.below hw').cell 4 rfl; go_simp; rw [Gr.grown_value]; done)
   intro K hK; go_simp; refine hK _ ?_; clear hK K
  cases hB : nullV vk vi vs
  ·have HB1 := h_ hB
   clear hB
   iterate 12
    first
    | apply Gr.sn undef; focus (go_simp; done)
    | apply Gr.sn; focus (go_simp; intro w' hw'; go_simp; rw [Gr.grown_value]; done)
    intro K hK; go_simp; refine hK _ ?_; clear hK K
   refine Gr.line_nil fun w4 hw4 => ?_
   have HW4 := t_ HW hw4
   clear hw4
   go_wp2_with fail
   go_ret
   refine ⟨congrArg (fun z => Ending.returned (.bool z)) ?_, HW4.out⟩
   rw [HPK.out, HB0.out, HB1.out]
   try rfl
  ·have HB1 := h_ hB
   clear hB
   iterate 12
    first
    | apply Gr.sn undef; focus (go_simp; done)
    | apply Gr.sn; focus (go_simp; intro w' hw'; go_simp; rw [Gr.grown_value]; done)
    | apply Gr.sn; focus (go_simp; intro w' hw'; have p6 := (HBk.out.below hw').cell 6 rfl; go_simp; rw [Gr.grown_value]; done)
    intro K hK; go_simp; refine hK _ ?_; clear hK K
   refine Gr.line_nil fun w4 hw4 => ?_
   have HW4 := t_ HW hw4
   clear hw4
   go_wp2_with fail
   go_ret
   refine ⟨congrArg (fun z => Ending.returned (.bool z)) ?_, HW4.out⟩
   rw [HPK.out, HB0.out, HB1.out, HLN.out]
   try rfl
theorem own_period_nil (int vk vi : Int) (vs nm : S) (cs : List Value) (w : World) (hvs : vs.length < 4294967281 /\ nm.length < 4294967281) (h : XR w (.mk 26 int vk vi vs nm []) cs) : Calls Tryz.prog 98 #[.agg cs.toArray] w (Ret w (.bool (ownB 26 int vk vi vs nm []))) := by
 have hnv : nm.length <= 140737488351232 := by omega
 have HPK : Hid (ownB 26 int vk vi vs nm [] = (decide (0 <= int) && (decide (int < 5) && (nullV vk vi vs && (decide (([] : List X).length = 0) && nameB nm))))) := h_ rfl
 generalize ownB 26 int vk vi vs nm [] = ANS at HPK |-
 have HLN : Hid (decide (([] : List X).length = 0) = true) := h_ (rfl)
 have hem := mkE vs
 have hemn := mkE nm
 have hlen0 := h.lits
 obtain ⟨a, m, rfl, hl, _, _, hlen⟩ := hlen0
 clear h
 have HL := h_ hl
 clear hl
 go_enter Tryz.func98, Tryz.ntmps98
 go_upto_region 1 with (fail)
 refine nA fun w1 hB hw1 hz1 => ?_
 have HW := h_ hw1
 have HBk := h_ hB
 have p0 := hB.cell 0 rfl
 clear hB hw1 hz1
 go_upto_region 7 with (fail)
 have hb0 : Below w1.heap.size w1 { w1 with drawn := w1.drawn + 1 } := belowD w1 1
 refine Gr.region_grow 25 (by kernel_rfl) (by kernel_rfl) (fun w' => Below w1.heap.size w1 w') hb0 ?_
 simp only [List.take_succ_cons, List.take_zero, List.drop_succ_cons, List.drop_zero]
 clear p0 hb0
 iterate 3
  first
  | apply Gr.sn (.bool (decide (0 <= int))); focus ((go_simp; intro w' hw'; go_simp; rw [Gr.grown_value]; all_goals ((first | rfl | (refine congrArg Value.bool ?_; first | rfl | simp | (rw [Bool.eq_iff_iff]; simp; omega))))); done)
  | apply Gr.sn; focus (go_simp; intro w' hw'; go_simp; rw [Gr.grown_value]; done)
  | apply Gr.sn; focus (go_simp; intro w' hw'; have p1 := (HBk.out.below hw').cell 1 rfl; go_simp; rw [Gr.grown_value]; done)
  intro K hK; go_simp; refine hK _ ?_; clear hK K
 cases hB : decide (0 <= int)
 ·have HB0 := h_ hB
  clear hB
  iterate 22
   first
   | apply Gr.sn undef; focus (go_simp; done)
   | apply Gr.sn; focus (go_simp; intro w' hw'; go_simp; rw [Gr.grown_value]; done)
   intro K hK; go_simp; refine hK _ ?_; clear hK K
  refine Gr.line_nil fun w4 hw4 => ?_
  have HW4 := t_ HW hw4
  clear hw4
  go_wp2_with fail
  go_ret
  refine ⟨congrArg (fun z => Ending.returned (.bool z)) ?_, HW4.out⟩
  rw [HPK.out, HB0.out]
  try rfl
 ·have HB0 := h_ hB
  clear hB
  iterate 4
   first
   | apply Gr.sn (.bool (decide (int < 5))); focus ((go_simp; intro w' hw'; go_simp; rw [Gr.grown_value]; all_goals ((first | rfl | (refine congrArg Value.bool ?_; first | rfl | simp | (rw [Bool.eq_iff_iff]; simp; omega))))); done)
   | apply Gr.sn; focus (go_simp; intro w' hw'; go_simp; rw [Gr.grown_value]; done)
   | apply Gr.sn; focus (go_simp; intro w' hw'; have p1 := (HBk.out.below hw').cell 1 rfl; go_simp; rw [Gr.grown_value]; done)
   intro K hK; go_simp; refine hK _ ?_; clear hK K
  cases hB : decide (int < 5)
  ·have HB1 := h_ hB
   clear hB
   iterate 18
    first
    | apply Gr.sn undef; focus (go_simp; done)
    | apply Gr.sn; focus (go_simp; intro w' hw'; go_simp; rw [Gr.grown_value]; done)
    intro K hK; go_simp; refine hK _ ?_; clear hK K
   refine Gr.line_nil fun w4 hw4 => ?_
   have HW4 := t_ HW hw4
   clear hw4
   go_wp2_with fail
   go_ret
   refine ⟨congrArg (fun z => Ending.returned (.bool z)) ?_, HW4.out⟩
   rw [HPK.out, HB0.out, HB1.out]
   try rfl
  ·have HB1 := h_ hB
   clear hB
   iterate 6
    first
    | apply Gr.sn (.agg #[.int .i64 0, .int .i64 0, .string ⟨#[]⟩]); focus (go_simp; intro w' hw'; go_simp; rw [Gr.grown_enter]; exact Ret.fam (null_call w') hw'; done)
    | apply Gr.sn (.bool (nullV vk vi vs)); focus (go_simp; intro w' hw'; go_simp; by_cases z1 : vk = 0 <;> by_cases z2 : vi = 0 <;> by_cases z3 : vs = [] <;> simp [z1, z2, z3, Gr.grown_value, nullV]; done)
    | apply Gr.sn; focus (go_simp; intro w' hw'; go_simp; rw [Gr.grown_value]; done)
    | apply Gr.sn; focus (go_simp; intro w' hw'; have p2 := (HBk.out.below hw').cell 2 rfl; have p3 := (HBk.out.below hw').cell 3 rfl; have p4 := (HBk.out.below hw').cell 4 rfl; go_simp; rw [Gr.grown_value]; done)
    intro K hK; go_simp; refine hK _ ?_; clear hK K
   cases hB : nullV vk vi vs
   ·have HB2 := h_ hB
    clear hB
    iterate 12
     first
     | apply Gr.sn undef; focus (go_simp; done)
     | apply Gr.sn; focus (go_simp; intro w' hw'; go_simp; rw [Gr.grown_value]; done)
     intro K hK; go_simp; refine hK _ ?_; clear hK K
    refine Gr.line_nil fun w4 hw4 => ?_
    have HW4 := t_ HW hw4
    clear hw4
    go_wp2_with fail
    go_ret
    refine ⟨congrArg (fun z => Ending.returned (.bool z)) ?_, HW4.out⟩
    rw [HPK.out, HB0.out, HB1.out, HB2.out]
    try rfl
   ·have HB2 := h_ hB
    clear hB
    iterate 11
     first
     | apply Gr.sn (.bool (nameB nm)); focus (go_simp; intro w' hw'; go_simp; rw [Gr.grown_enter]; exact Ret.fam (rname_at nm w') hw'; done)
     | apply Gr.sn; focus (go_simp; intro w' hw'; go_simp; rw [Gr.grown_value]; done)
     | apply Gr.sn; focus (go_simp; intro w' hw'; have p6 := (HBk.out.below hw').cell 6 rfl; go_simp; rw [Gr.grown_value]; done)
     | apply Gr.sn; focus (go_simp; intro w' hw'; have p5 := (HBk.out.below hw').cell 5 rfl; go_simp; rw [Gr.grown_value]; done)
     intro K hK; go_simp; refine hK _ ?_; clear hK K
    cases hB : nameB nm
    ·have HB4 := h_ hB
     clear hB
     refine Gr.sn _ (by go_simp; intro w' hw'; go_simp; rw [Gr.grown_value]) fun K hK => ?_; go_simp; refine hK _ ?_; clear hK K
     refine Gr.line_nil fun w4 hw4 => ?_
     have HW4 := t_ HW hw4
     clear hw4
     go_wp2_with fail
     go_ret
     refine ⟨congrArg (fun z => Ending.returned (.bool z)) ?_, HW4.out⟩
     rw [HPK.out, HB0.out, HB1.out, HB2.out, HLN.out, HB4.out]
     try rfl
    ·have HB4 := h_ hB
     clear hB
     refine Gr.sn _ (by go_simp; intro w' hw'; go_simp; rw [Gr.grown_value]) fun K hK => ?_; go_simp; refine hK _ ?_; clear hK K
     refine Gr.line_nil fun w4 hw4 => ?_
     have HW4 := t_ HW hw4
     clear hw4
     go_wp2_with fail
     go_ret
     refine ⟨congrArg (fun z => Ending.returned (.bool z)) ?_, HW4.out⟩
     rw [HPK.out, HB0.out, HB1.out, HB2.out, HLN.out, HB4.out]
     try rfl
theorem own_period_cons (int vk vi : Int) (vs nm : S) (l : List X) (hne : l ≠ []) (cs : List Value) (w : World) (hvs : vs.length < 4294967281 /\ nm.length < 4294967281) (h : XR w (.mk 26 int vk vi vs nm l) cs) : Calls Tryz.prog 98 #[.agg cs.toArray] w (Ret w (.bool (ownB 26 int vk vi vs nm l))) := by
 have hnv : nm.length <= 140737488351232 := by omega
 have HPK : Hid (ownB 26 int vk vi vs nm l = (decide (0 <= int) && (decide (int < 5) && (nullV vk vi vs && (decide ((l : List X).length = 0) && nameB nm))))) := h_ rfl
 generalize ownB 26 int vk vi vs nm l = ANS at HPK |-
 have HLN : Hid (decide ((l : List X).length = 0) = false) := h_ (decide_eq_false fun e => hne (List.eq_nil_of_length_eq_zero e))
 have hem := mkE vs
 have hemn := mkE nm
 have hlen0 := h.lits
 obtain ⟨a, m, rfl, hl, _, _, hlen⟩ := hlen0
 clear h
 have HL := h_ hl
 clear hl
 go_enter Tryz.func98, Tryz.ntmps98
 go_upto_region 1 with (fail)
 refine nA fun w1 hB hw1 hz1 => ?_
 have HW := h_ hw1
 have HBk := h_ hB
 have p0 := hB.cell 0 rfl
 clear hB hw1 hz1
 go_upto_region 7 with (fail)
 have hb0 : Below w1.heap.size w1 { w1 with drawn := w1.drawn + 1 } := belowD w1 1
 refine Gr.region_grow 25 (by kernel_rfl) (by kernel_rfl) (fun w' => Below w1.heap.size w1 w') hb0 ?_
 simp only [List.take_succ_cons, List.take_zero, List.drop_succ_cons, List.drop_zero]
 clear p0 hb0
 iterate 3
  first
  | apply Gr.sn (.bool (decide (0 <= int))); focus ((go_simp; intro w' hw'; go_simp; rw [Gr.grown_value]; all_goals ((first | rfl | (refine congrArg Value.bool ?_; first | rfl | simp | (rw [Bool.eq_iff_iff]; simp; omega))))); done)
  | apply Gr.sn; focus (go_simp; intro w' hw'; go_simp; rw [Gr.grown_value]; done)
  | apply Gr.sn; focus (go_simp; intro w' hw'; have p1 := (HBk.out.below hw').cell 1 rfl; go_simp; rw [Gr.grown_value]; done)
  intro K hK; go_simp; refine hK _ ?_; clear hK K
 cases hB : decide (0 <= int)
 ·have HB0 := h_ hB
  clear hB
  iterate 22
   first
   | apply Gr.sn undef; focus (go_simp; done)
   | apply Gr.sn; focus (go_simp; intro w' hw'; go_simp; rw [Gr.grown_value]; done)
   intro K hK; go_simp; refine hK _ ?_; clear hK K
  refine Gr.line_nil fun w4 hw4 => ?_
  have HW4 := t_ HW hw4
  clear hw4
  go_wp2_with fail
  go_ret
  refine ⟨congrArg (fun z => Ending.returned (.bool z)) ?_, HW4.out⟩
  rw [HPK.out, HB0.out]
  try rfl
 ·have HB0 := h_ hB
  clear hB
  iterate 4
   first
   | apply Gr.sn (.bool (decide (int < 5))); focus ((go_simp; intro w' hw'; go_simp; rw [Gr.grown_value]; all_goals ((first | rfl | (refine congrArg Value.bool ?_; first | rfl | simp | (rw [Bool.eq_iff_iff]; simp; omega))))); done)
   | apply Gr.sn; focus (go_simp; intro w' hw'; go_simp; rw [Gr.grown_value]; done)
   | apply Gr.sn; focus (go_simp; intro w' hw'; have p1 := (HBk.out.below hw').cell 1 rfl; go_simp; rw [Gr.grown_value]; done)
   intro K hK; go_simp; refine hK _ ?_; clear hK K
  cases hB : decide (int < 5)
  ·have HB1 := h_ hB
   clear hB
   iterate 18
    first
    | apply Gr.sn undef; focus (go_simp; done)
    | apply Gr.sn; focus (go_simp; intro w' hw'; go_simp; rw [Gr.grown_value]; done)
    intro K hK; go_simp; refine hK _ ?_; clear hK K
   refine Gr.line_nil fun w4 hw4 => ?_
   have HW4 := t_ HW hw4
   clear hw4
   go_wp2_with fail
   go_ret
   refine ⟨congrArg (fun z => Ending.returned (.bool z)) ?_, HW4.out⟩
   rw [HPK.out, HB0.out, HB1.out]
   try rfl
  ·have HB1 := h_ hB
   clear hB
   iterate 6
    first
    | apply Gr.sn (.agg #[.int .i64 0, .int .i64 0, .string ⟨#[]⟩]); focus (go_simp; intro w' hw'; go_simp; rw [Gr.grown_enter]; exact Ret.fam (null_call w') hw'; done)
    | apply Gr.sn (.bool (nullV vk vi vs)); focus (go_simp; intro w' hw'; go_simp; by_cases z1 : vk = 0 <;> by_cases z2 : vi = 0 <;> by_cases z3 : vs = [] <;> simp [z1, z2, z3, Gr.grown_value, nullV]; done)
    | apply Gr.sn; focus (go_simp; intro w' hw'; go_simp; rw [Gr.grown_value]; done)
    | apply Gr.sn; focus (go_simp; intro w' hw'; have p2 := (HBk.out.below hw').cell 2 rfl; have p3 := (HBk.out.below hw').cell 3 rfl; have p4 := (HBk.out.below hw').cell 4 rfl; go_simp; rw [Gr.grown_value]; done)
    intro K hK; go_simp; refine hK _ ?_; clear hK K
   cases hB : nullV vk vi vs
   ·have HB2 := h_ hB
    clear hB
    iterate 12
     first
     | apply Gr.sn undef; focus (go_simp; done)
     | apply Gr.sn; focus (go_simp; intro w' hw'; go_simp; rw [Gr.grown_value]; done)
     intro K hK; go_simp; refine hK _ ?_; clear hK K
    refine Gr.line_nil fun w4 hw4 => ?_
    have HW4 := t_ HW hw4
    clear hw4
    go_wp2_with fail
    go_ret
    refine ⟨congrArg (fun z => Ending.returned (.bool z)) ?_, HW4.out⟩
    rw [HPK.out, HB0.out, HB1.out, HB2.out]
    try rfl
   ·have HB2 := h_ hB
    clear hB
    iterate 12
     first
     | apply Gr.sn undef; focus (go_simp; done)
     | apply Gr.sn; focus (go_simp; intro w' hw'; go_simp; rw [Gr.grown_value]; done)
     | apply Gr.sn; focus (go_simp; intro w' hw'; have p6 := (HBk.out.below hw').cell 6 rfl; go_simp; rw [Gr.grown_value]; done)
     intro K hK; go_simp; refine hK _ ?_; clear hK K
    refine Gr.line_nil fun w4 hw4 => ?_
    have HW4 := t_ HW hw4
    clear hw4
    go_wp2_with fail
    go_ret
    refine ⟨congrArg (fun z => Ending.returned (.bool z)) ?_, HW4.out⟩
    rw [HPK.out, HB0.out, HB1.out, HB2.out, HLN.out]
    try rfl
theorem own_rel (int vk vi : Int) (vs nm : S) (l : List X) (cs : List Value) (w : World) (hvs : vs.length < 4294967281 /\ nm.length < 4294967281) (hsh : ∀ x ∈ l, x.nm.length < 4294967281) (h : XR w (.mk 25 int vk vi vs nm l) cs) : Calls Tryz.prog 98 #[.agg cs.toArray] w (Ret w (.bool (ownB 25 int vk vi vs nm l))) := by
 have HPK : Hid (ownB 25 int vk vi vs nm l = (decide (0 <= int) && (decide (int < 13) && (nullV vk vi vs && (nm.isEmpty && (decide (l.length = 2) && l.all tableB)))))) := h_ rfl
 by_cases h2 : l.length = 2
 ·
  have hem := mkE vs
  have hemn := mkE nm
  obtain ⟨x0, x1, rfl⟩ := len2o h2
  have h0s := hsh x0 (by simp)
  have h1s := hsh x1 (by simp)
  obtain ⟨op0, int0, vk0, vi0, vs0, nm0, l0⟩ := x0
  obtain ⟨op1, int1, vk1, vi1, vs1, nm1, l1⟩ := x1
  have HPK : Hid (ownB 25 int vk vi vs nm [.mk op0 int0 vk0 vi0 vs0 nm0 l0, .mk op1 int1 vk1 vi1 vs1 nm1 l1] = (decide (0 <= int) && (decide (int < 13) && (nullV vk vi vs && (nm.isEmpty && (decide (([.mk op0 int0 vk0 vi0 vs0 nm0 l0, .mk op1 int1 vk1 vi1 vs1 nm1 l1] : List X).length = 2) && (tableB (.mk op0 int0 vk0 vi0 vs0 nm0 l0) && tableB (.mk op1 int1 vk1 vi1 vs1 nm1 l1)))))))) := h_ (by rw [HPK.out]; simp only [List.all_cons, List.all_nil, Bool.and_true])
  generalize ownB 25 int vk vi vs nm [.mk op0 int0 vk0 vi0 vs0 nm0 l0, .mk op1 int1 vk1 vi1 vs1 nm1 l1] = ANS at HPK |-
  obtain ⟨a, m, rfl, hl, _, _, hlen⟩ := h.lits
  clear h
  obtain ⟨g, o, us, eq, hec, _, hrx⟩ := hl.ec (k := 0) (by simp)
  subst eq
  obtain ⟨g', o', us', eq', hec', _, hrx'⟩ := hl.ec (k := 1) (by simp)
  injection eq' with eq'
  injection eq' with eg eo
  subst eg eo
  have HT0 := h_ fun (w' : World) (hw' : Below w.heap.size w w') => table_call (hrx.kept hw' (Nat.le_refl _)) h0s
  have HT1 := h_ fun (w' : World) (hw' : Below w.heap.size w w') => table_call (hrx'.kept hw' (Nat.le_refl _)) h1s
  obtain ⟨ea, em, rfl, _⟩ := (show XR w (.mk op0 int0 vk0 vi0 vs0 nm0 l0) us from hrx).lits
  obtain ⟨ea', em', rfl, _⟩ := (show XR w (.mk op1 int1 vk1 vi1 vs1 nm1 l1) us' from hrx').lits
  simp only [Nat.zero_mul, Nat.add_zero, Nat.one_mul] at hec hec'
  have HE0 := h_ hec
  have HE1 := h_ hec'
  clear hrx hrx' hec hec' hl h2 hsh
  simp only [List.length_cons, List.length_nil, Nat.zero_add] at HPK |-
  go_enter Tryz.func98, Tryz.ntmps98
  go_upto_region 1 with (fail)
  refine nA fun w1 hB hw1 hz1 => ?_
  have HW := h_ hw1
  have HBk := h_ hB
  have p0 := hB.cell 0 rfl
  clear hB hw1 hz1
  go_upto_region 5 with (fail)
  have hb0 : Below w1.heap.size w1 { w1 with drawn := w1.drawn + 1 } := belowD w1 1
  refine Gr.region_grow 39 (by kernel_rfl) (by kernel_rfl) (fun w' => Below w1.heap.size w1 w') hb0 ?_
  simp only [List.take_succ_cons, List.take_zero, List.drop_succ_cons, List.drop_zero]
  clear p0 hb0
  iterate 3
   first
   | apply Gr.sn (.bool (decide (0 <= int))); focus ((go_simp; intro w' hw'; go_simp; rw [Gr.grown_value]; all_goals ((first | rfl | (refine congrArg Value.bool ?_; first | rfl | simp | (rw [Bool.eq_iff_iff]; simp; omega))))); done)
   | apply Gr.sn; focus (go_simp; intro w' hw'; go_simp; rw [Gr.grown_value]; done)
   | apply Gr.sn; focus (go_simp; intro w' hw'; have p1 := (HBk.out.below hw').cell 1 rfl; go_simp; rw [Gr.grown_value]; done)
   intro K hK; go_simp; refine hK _ ?_; clear hK K
  cases hB : decide (0 <= int)
  ·have HB0 := h_ hB
   clear hB
   iterate 36
    first
    | apply Gr.sn undef; focus (go_simp; done)
    | apply Gr.sn; focus (go_simp; intro w' hw'; go_simp; rw [Gr.grown_value]; done)
    intro K hK; go_simp; refine hK _ ?_; clear hK K
   refine Gr.line_nil fun w4 hw4 => ?_
   have HW4 := t_ HW hw4
   clear hw4
   go_wp2_with fail
   go_ret
   refine ⟨congrArg (fun z => Ending.returned (.bool z)) ?_, HW4.out⟩
   rw [HPK.out, HB0.out]
   try rfl
  ·have HB0 := h_ hB
   clear hB
   iterate 4
    first
    | apply Gr.sn (.bool (decide (int < 13))); focus ((go_simp; intro w' hw'; go_simp; rw [Gr.grown_value]; all_goals ((first | rfl | (refine congrArg Value.bool ?_; first | rfl | simp | (rw [Bool.eq_iff_iff]; simp; omega))))); done)
    | apply Gr.sn; focus (go_simp; intro w' hw'; go_simp; rw [Gr.grown_value]; done)
    | apply Gr.sn; focus (go_simp; intro w' hw'; have p1 := (HBk.out.below hw').cell 1 rfl; go_simp; rw [Gr.grown_value]; done)
    intro K hK; go_simp; refine hK _ ?_; clear hK K
   cases hB : decide (int < 13)
   ·have HB1 := h_ hB
    clear hB
    iterate 32
     first
     | apply Gr.sn undef; focus (go_simp; done)
     | apply Gr.sn; focus (go_simp; intro w' hw'; go_simp; rw [Gr.grown_value]; done)
     intro K hK; go_simp; refine hK _ ?_; clear hK K
    refine Gr.line_nil fun w4 hw4 => ?_
    have HW4 := t_ HW hw4
    clear hw4
    go_wp2_with fail
    go_ret
    refine ⟨congrArg (fun z => Ending.returned (.bool z)) ?_, HW4.out⟩
    rw [HPK.out, HB0.out, HB1.out]
    try rfl
   ·have HB1 := h_ hB
    clear hB
    iterate 6
     first
     | apply Gr.sn (.agg #[.int .i64 0, .int .i64 0, .string ⟨#[]⟩]); focus (go_simp; intro w' hw'; go_simp; rw [Gr.grown_enter]; exact Ret.fam (null_call w') hw'; done)
     | apply Gr.sn (.bool (nullV vk vi vs)); focus (go_simp; intro w' hw'; go_simp; by_cases z1 : vk = 0 <;> by_cases z2 : vi = 0 <;> by_cases z3 : vs = [] <;> simp [z1, z2, z3, Gr.grown_value, nullV]; done)
     | apply Gr.sn; focus (go_simp; intro w' hw'; go_simp; rw [Gr.grown_value]; done)
     | apply Gr.sn; focus (go_simp; intro w' hw'; have p2 := (HBk.out.below hw').cell 2 rfl; have p3 := (HBk.out.below hw').cell 3 rfl; have p4 := (HBk.out.below hw').cell 4 rfl; go_simp; rw [Gr.grown_value]; done)
     intro K hK; go_simp; refine hK _ ?_; clear hK K
    cases hB : nullV vk vi vs
    ·have HB2 := h_ hB
     clear hB
     iterate 26
      first
      | apply Gr.sn undef; focus (go_simp; done)
      | apply Gr.sn; focus (go_simp; intro w' hw'; go_simp; rw [Gr.grown_value]; done)
      intro K hK; go_simp; refine hK _ ?_; clear hK K
     refine Gr.line_nil fun w4 hw4 => ?_
     have HW4 := t_ HW hw4
     clear hw4
     go_wp2_with fail
     go_ret
     refine ⟨congrArg (fun z => Ending.returned (.bool z)) ?_, HW4.out⟩
     rw [HPK.out, HB0.out, HB1.out, HB2.out]
     try rfl
    ·have HB2 := h_ hB
     clear hB
     iterate 5
      first
      | apply Gr.sn (.bool (nm.isEmpty)); focus ((go_simp; intro w' hw'; go_simp; rw [Gr.grown_value]; all_goals ((first | rfl | (refine congrArg Value.bool ?_; first | rfl | simp | exact hemn)))); done)
      | apply Gr.sn; focus (go_simp; intro w' hw'; go_simp; rw [Gr.grown_value]; done)
      | apply Gr.sn; focus (go_simp; intro w' hw'; have p5 := (HBk.out.below hw').cell 5 rfl; go_simp; rw [Gr.grown_value]; done)
      intro K hK; go_simp; refine hK _ ?_; clear hK K
     cases hB : nm.isEmpty
     ·have HB3 := h_ hB
      clear hB
      iterate 21
       first
       | apply Gr.sn undef; focus (go_simp; done)
       | apply Gr.sn; focus (go_simp; intro w' hw'; go_simp; rw [Gr.grown_value]; done)
       intro K hK; go_simp; refine hK _ ?_; clear hK K
      refine Gr.line_nil fun w4 hw4 => ?_
      have HW4 := t_ HW hw4
      clear hw4
      go_wp2_with fail
      go_ret
      refine ⟨congrArg (fun z => Ending.returned (.bool z)) ?_, HW4.out⟩
      rw [HPK.out, HB0.out, HB1.out, HB2.out, HB3.out]
      try rfl
     ·have HB3 := h_ hB
      clear hB
      iterate 13
       first
       | apply Gr.sn (.bool (tableB (.mk op0 int0 vk0 vi0 vs0 nm0 l0))); focus (go_simp; intro w' hw'; go_simp; rw [Gr.grown_enter]; exact Ret.fam (HT0.out w' (HW.out.trans (hw'.mono HW.out.size))) hw'; done)
       | apply Gr.sn; focus (go_simp; intro w' hw'; go_simp; rw [Gr.grown_value]; done)
       | apply Gr.sn; focus (go_simp; intro w' hw'; have p6 := (HBk.out.below hw').cell 6 rfl; go_simp; rw [Gr.grown_value]; done)
       | apply Gr.sn; focus (go_simp; intro w' hw'; have r0 := HE0.out.at0 (HW.out.trans (hw'.mono HW.out.size)) (u := _) rfl; have r1 := HE0.out.at_ (HW.out.trans (hw'.mono HW.out.size)) (j := 1) rfl; have r2 := HE0.out.at_ (HW.out.trans (hw'.mono HW.out.size)) (j := 2) rfl; have r3 := HE0.out.at_ (HW.out.trans (hw'.mono HW.out.size)) (j := 3) rfl; have r4 := HE0.out.at_ (HW.out.trans (hw'.mono HW.out.size)) (j := 4) rfl; have r5 := HE0.out.at_ (HW.out.trans (hw'.mono HW.out.size)) (j := 5) rfl; have r6 := HE0.out.at_ (HW.out.trans (hw'.mono HW.out.size)) (j := 6) rfl; go_simp; rw [Gr.grown_value]; done)
       intro K hK; go_simp; refine hK _ ?_; clear hK K
      cases hB : tableB (.mk op0 int0 vk0 vi0 vs0 nm0 l0)
      ·have HB5 := h_ hB
       clear hB
       iterate 8
        first
        | apply Gr.sn undef; focus (go_simp; done)
        | apply Gr.sn; focus (go_simp; intro w' hw'; go_simp; rw [Gr.grown_value]; done)
        intro K hK; go_simp; refine hK _ ?_; clear hK K
       refine Gr.line_nil fun w4 hw4 => ?_
       have HW4 := t_ HW hw4
       clear hw4
       go_wp2_with fail
       go_ret
       refine ⟨congrArg (fun z => Ending.returned (.bool z)) ?_, HW4.out⟩
       rw [HPK.out, HB0.out, HB1.out, HB2.out, HB3.out, HB5.out]
       try rfl
      ·have HB5 := h_ hB
       clear hB
       iterate 7
        first
        | apply Gr.sn (.bool (tableB (.mk op1 int1 vk1 vi1 vs1 nm1 l1))); focus (go_simp; intro w' hw'; go_simp; rw [Gr.grown_enter]; exact Ret.fam (HT1.out w' (HW.out.trans (hw'.mono HW.out.size))) hw'; done)
        | apply Gr.sn; focus (go_simp; intro w' hw'; go_simp; rw [Gr.grown_value]; done)
        | apply Gr.sn; focus (go_simp; intro w' hw'; have p6 := (HBk.out.below hw').cell 6 rfl; go_simp; rw [Gr.grown_value]; done)
        | apply Gr.sn; focus (go_simp; intro w' hw'; have s0 := HE1.out.at0 (HW.out.trans (hw'.mono HW.out.size)) (u := _) rfl; have s1 := HE1.out.at_ (HW.out.trans (hw'.mono HW.out.size)) (j := 1) rfl; have s2 := HE1.out.at_ (HW.out.trans (hw'.mono HW.out.size)) (j := 2) rfl; have s3 := HE1.out.at_ (HW.out.trans (hw'.mono HW.out.size)) (j := 3) rfl; have s4 := HE1.out.at_ (HW.out.trans (hw'.mono HW.out.size)) (j := 4) rfl; have s5 := HE1.out.at_ (HW.out.trans (hw'.mono HW.out.size)) (j := 5) rfl; have s6 := HE1.out.at_ (HW.out.trans (hw'.mono HW.out.size)) (j := 6) rfl; go_simp; rw [Gr.grown_value]; done)
        intro K hK; go_simp; refine hK _ ?_; clear hK K
       cases hB : tableB (.mk op1 int1 vk1 vi1 vs1 nm1 l1)
       ·have HB6 := h_ hB
        clear hB
        refine Gr.sn _ (by go_simp; intro w' hw'; go_simp; rw [Gr.grown_value]) fun K hK => ?_; go_simp; refine hK _ ?_; clear hK K
        refine Gr.line_nil fun w4 hw4 => ?_
        have HW4 := t_ HW hw4
        clear hw4
        go_wp2_with fail
        go_ret
        refine ⟨congrArg (fun z => Ending.returned (.bool z)) ?_, HW4.out⟩
        rw [HPK.out, HB0.out, HB1.out, HB2.out, HB3.out, HB5.out, HB6.out]
        try rfl
       ·have HB6 := h_ hB
        clear hB
        refine Gr.sn _ (by go_simp; intro w' hw'; go_simp; rw [Gr.grown_value]) fun K hK => ?_; go_simp; refine hK _ ?_; clear hK K
        refine Gr.line_nil fun w4 hw4 => ?_
        have HW4 := t_ HW hw4
        clear hw4
        go_wp2_with fail
        go_ret
        refine ⟨congrArg (fun z => Ending.returned (.bool z)) ?_, HW4.out⟩
        rw [HPK.out, HB0.out, HB1.out, HB2.out, HB3.out, HB5.out, HB6.out]
        try rfl
 ·
  have hem := mkE vs
  have hemn := mkE nm
  generalize ownB 25 int vk vi vs nm l = ANS at HPK |-
  obtain ⟨a, m, rfl, hl, _, _, hlen⟩ := h.lits
  clear h
  have HH2 := h_ (decide_eq_false h2)
  have h2i : ¬ (l.length : Int) = 2 := by omega
  clear hl h2
  go_enter Tryz.func98, Tryz.ntmps98
  go_upto_region 1 with (fail)
  refine nA fun w1 hB hw1 hz1 => ?_
  have HW := h_ hw1
  have HBk := h_ hB
  have p0 := hB.cell 0 rfl
  clear hB hw1 hz1
  go_upto_region 5 with (fail)
  have hb0 : Below w1.heap.size w1 { w1 with drawn := w1.drawn + 1 } := belowD w1 1
  refine Gr.region_grow 39 (by kernel_rfl) (by kernel_rfl) (fun w' => Below w1.heap.size w1 w') hb0 ?_
  simp only [List.take_succ_cons, List.take_zero, List.drop_succ_cons, List.drop_zero]
  clear p0 hb0
  iterate 3
   first
   | apply Gr.sn (.bool (decide (0 <= int))); focus ((go_simp; intro w' hw'; go_simp; rw [Gr.grown_value]; all_goals ((first | rfl | (refine congrArg Value.bool ?_; first | rfl | simp | (rw [Bool.eq_iff_iff]; simp; omega))))); done)
   | apply Gr.sn; focus (go_simp; intro w' hw'; go_simp; rw [Gr.grown_value]; done)
   | apply Gr.sn; focus (go_simp; intro w' hw'; have p1 := (HBk.out.below hw').cell 1 rfl; go_simp; rw [Gr.grown_value]; done)
   intro K hK; go_simp; refine hK _ ?_; clear hK K
  cases hB : decide (0 <= int)
  ·have HB0 := h_ hB
   clear hB
   iterate 36
    first
    | apply Gr.sn undef; focus (go_simp; done)
    | apply Gr.sn; focus (go_simp; intro w' hw'; go_simp; rw [Gr.grown_value]; done)
    intro K hK; go_simp; refine hK _ ?_; clear hK K
   refine Gr.line_nil fun w4 hw4 => ?_
   have HW4 := t_ HW hw4
   clear hw4
   go_wp2_with fail
   go_ret
   refine ⟨congrArg (fun z => Ending.returned (.bool z)) ?_, HW4.out⟩
   rw [HPK.out, HB0.out]
   try rfl
  ·have HB0 := h_ hB
   clear hB
   iterate 4
    first
    | apply Gr.sn (.bool (decide (int < 13))); focus ((go_simp; intro w' hw'; go_simp; rw [Gr.grown_value]; all_goals ((first | rfl | (refine congrArg Value.bool ?_; first | rfl | simp | (rw [Bool.eq_iff_iff]; simp; omega))))); done)
    | apply Gr.sn; focus (go_simp; intro w' hw'; go_simp; rw [Gr.grown_value]; done)
    | apply Gr.sn; focus (go_simp; intro w' hw'; have p1 := (HBk.out.below hw').cell 1 rfl; go_simp; rw [Gr.grown_value]; done)
    intro K hK; go_simp; refine hK _ ?_; clear hK K
   cases hB : decide (int < 13)
   ·have HB1 := h_ hB
    clear hB
    iterate 32
     first
     | apply Gr.sn undef; focus (go_simp; done)
     | apply Gr.sn; focus (go_simp; intro w' hw'; go_simp; rw [Gr.grown_value]; done)
     intro K hK; go_simp; refine hK _ ?_; clear hK K
    refine Gr.line_nil fun w4 hw4 => ?_
    have HW4 := t_ HW hw4
    clear hw4
    go_wp2_with fail
    go_ret
    refine ⟨congrArg (fun z => Ending.returned (.bool z)) ?_, HW4.out⟩
    rw [HPK.out, HB0.out, HB1.out]
    try rfl
   ·have HB1 := h_ hB
    clear hB
    iterate 6
     first
     | apply Gr.sn (.agg #[.int .i64 0, .int .i64 0, .string ⟨#[]⟩]); focus (go_simp; intro w' hw'; go_simp; rw [Gr.grown_enter]; exact Ret.fam (null_call w') hw'; done)
     | apply Gr.sn (.bool (nullV vk vi vs)); focus (go_simp; intro w' hw'; go_simp; by_cases z1 : vk = 0 <;> by_cases z2 : vi = 0 <;> by_cases z3 : vs = [] <;> simp [z1, z2, z3, Gr.grown_value, nullV]; done)
     | apply Gr.sn; focus (go_simp; intro w' hw'; go_simp; rw [Gr.grown_value]; done)
     | apply Gr.sn; focus (go_simp; intro w' hw'; have p2 := (HBk.out.below hw').cell 2 rfl; have p3 := (HBk.out.below hw').cell 3 rfl; have p4 := (HBk.out.below hw').cell 4 rfl; go_simp; rw [Gr.grown_value]; done)
     intro K hK; go_simp; refine hK _ ?_; clear hK K
    cases hB : nullV vk vi vs
    ·have HB2 := h_ hB
     clear hB
     iterate 26
      first
      | apply Gr.sn undef; focus (go_simp; done)
      | apply Gr.sn; focus (go_simp; intro w' hw'; go_simp; rw [Gr.grown_value]; done)
      intro K hK; go_simp; refine hK _ ?_; clear hK K
     refine Gr.line_nil fun w4 hw4 => ?_
     have HW4 := t_ HW hw4
     clear hw4
     go_wp2_with fail
     go_ret
     refine ⟨congrArg (fun z => Ending.returned (.bool z)) ?_, HW4.out⟩
     rw [HPK.out, HB0.out, HB1.out, HB2.out]
     try rfl
    ·have HB2 := h_ hB
     clear hB
     iterate 5
      first
      | apply Gr.sn (.bool (nm.isEmpty)); focus ((go_simp; intro w' hw'; go_simp; rw [Gr.grown_value]; all_goals ((first | rfl | (refine congrArg Value.bool ?_; first | rfl | simp | exact hemn)))); done)
      | apply Gr.sn; focus (go_simp; intro w' hw'; go_simp; rw [Gr.grown_value]; done)
      | apply Gr.sn; focus (go_simp; intro w' hw'; have p5 := (HBk.out.below hw').cell 5 rfl; go_simp; rw [Gr.grown_value]; done)
      intro K hK; go_simp; refine hK _ ?_; clear hK K
     cases hB : nm.isEmpty
     ·have HB3 := h_ hB
      clear hB
      iterate 21
       first
       | apply Gr.sn undef; focus (go_simp; done)
       | apply Gr.sn; focus (go_simp; intro w' hw'; go_simp; rw [Gr.grown_value]; done)
       intro K hK; go_simp; refine hK _ ?_; clear hK K
      refine Gr.line_nil fun w4 hw4 => ?_
      have HW4 := t_ HW hw4
      clear hw4
      go_wp2_with fail
      go_ret
      refine ⟨congrArg (fun z => Ending.returned (.bool z)) ?_, HW4.out⟩
      rw [HPK.out, HB0.out, HB1.out, HB2.out, HB3.out]
      try rfl
     ·have HB3 := h_ hB
      clear hB
      iterate 21
       first
       | apply Gr.sn undef; focus (go_simp; done)
       | apply Gr.sn; focus (go_simp; intro w' hw'; go_simp; rw [Gr.grown_value]; done)
       | apply Gr.sn; focus (go_simp; intro w' hw'; have p6 := (HBk.out.below hw').cell 6 rfl; go_simp; rw [Gr.grown_value]; done)
       intro K hK; go_simp; refine hK _ ?_; clear hK K
      refine Gr.line_nil fun w4 hw4 => ?_
      have HW4 := t_ HW hw4
      clear hw4
      go_wp2_with fail
      go_ret
      refine ⟨congrArg (fun z => Ending.returned (.bool z)) ?_, HW4.out⟩
      rw [HPK.out, HB0.out, HB1.out, HB2.out, HB3.out, HH2.out]
      try rfl
theorem own_other (op int vk vi : Int) (vs nm : S) (l : List X) (cs : List Value) (w : World) (h3 : op ≠ 3) (h25 : op ≠ 25) (h26 : op ≠ 26) (hvs : vs.length < 4294967281 /\ nm.length < 4294967281) (h : XR w (.mk op int vk vi vs nm l) cs) : Calls Tryz.prog 98 #[.agg cs.toArray] w (Ret w (.bool (ownB op int vk vi vs nm l))) := by
 have HPK : Hid (ownB op int vk vi vs nm l = if op = 2 \/ op = 24 then false else formedB op int vk vi vs nm l.length) := h_ (by unfold ownB; rw [if_neg h3, if_neg h25, if_neg h26])
 have HX := h_ h
 have HF := h_ fun (h2 : op ≠ 2) (h24 : op ≠ 24) (w' : World) (hw' : Below w.heap.size w w') => formed_call (h.kept hw' (Nat.le_refl _)) (fun _ _ _ _ _ _ _ e => by injection e with e0 _ _ _ e4; subst e0 e4; exact ⟨h2, h24, hvs.1⟩) op int vk vi vs nm l rfl
 generalize ownB op int vk vi vs nm l = ANS at HPK |-
 generalize formedB op int vk vi vs nm l.length = FB at HPK HF
 obtain ⟨a, m, rfl, hl, _, _, hlen⟩ := h.lits
 have b3 : (op == 3) = false := by simpa using h3
 have b25 : (op == 25) = false := by simpa using h25
 have b26 : (op == 26) = false := by simpa using h26
 clear h hl h3 h25 h26
 go_enter Tryz.func98, Tryz.ntmps98
 go_upto_region 1 with (fail)
 refine nA fun w1 hB hw1 hz1 => ?_
 have HW := h_ hw1
 obtain ⟨p0, p1, p2, p3, p4, p5, p6⟩ := hB.c7
 clear hB hw1 hz1
 by_cases h2 : op = 2
 ·subst h2
  have HP : Hid (ANS = false) := h_ (by rw [HPK.out, if_pos (.inl rfl)])
  go_wp2_with fail
  go_ret
  exact ⟨by rw [HP.out]; rfl, HW.out⟩
 by_cases h24 : op = 24
 ·subst h24
  have HP : Hid (ANS = false) := h_ (by rw [HPK.out, if_pos (.inr rfl)])
  go_wp2_with fail
  go_ret
  exact ⟨by rw [HP.out]; rfl, HW.out⟩
 have HP : Hid (ANS = FB) := h_ (by rw [HPK.out, if_neg (by omega)])
 have HF1 := h_ (Ret.at_ (HF.out h2 h24 w1 HW.out) HW.out)
 have b2 : (op == 2) = false := by simpa using h2
 have b24 : (op == 24) = false := by simpa using h24
 clear HF h2 h24
 go_wp2_with fail
 refine HF1.out.mono ?_
 rintro e w2 ⟨rfl, hw2⟩
 go_wp2_with fail
 go_ret
 exact ⟨by rw [HP.out]; rfl, hw2⟩
theorem short_nm {x : X} (h : shortX x) : x.nm.length < 4294967281 := by
 obtain ⟨op, int, vk, vi, vs, nm, l⟩ := x
 rw [shortX] at h
 exact h.1.2
theorem own_call (op int vk vi : Int) (vs nm : S) (l : List X) (cs : List Value) (w : World) (hvs : vs.length < 4294967281 /\ nm.length < 4294967281) (hsh : shortL l) (h : XR w (.mk op int vk vi vs nm l) cs) : Calls Tryz.prog 98 #[.agg cs.toArray] w (Ret w (.bool (ownB op int vk vi vs nm l))) := by
 by_cases h3 : op = 3
 ·subst h3
  by_cases hl : l = []
  ·subst hl; exact own_name_nil int vk vi vs nm cs w hvs h
  ·exact own_name_cons int vk vi vs nm l hl cs w hvs h
 by_cases h25 : op = 25
 ·subst h25; exact own_rel int vk vi vs nm l cs w hvs (fun x hx => short_nm (short_mem hsh hx)) h
 by_cases h26 : op = 26
 ·subst h26
  by_cases hl : l = []
  ·subst hl; exact own_period_nil int vk vi vs nm cs w hvs h
  ·exact own_period_cons int vk vi vs nm l hl cs w hvs h
 exact own_other op int vk vi vs nm l cs w h3 h25 h26 hvs h
/-- a list of texts in memory -/
def SV (w : World) (L : List S) (a : Option Addr) : Prop := ∀ (j : Nat) (s : S), L[j]? = some s -> ∃ b o, a = some ⟨b, o, none⟩ /\ b < w.heap.size /\ w.cell? ⟨b, o + j, none⟩ = some (strV s)
theorem SV.at_ {w : World} {L : List S} {a : Option Addr} (h : SV w L a) {k : Nat} (hk : k < L.length) : ∃ b o, a = some ⟨b, o, none⟩ /\ b < w.heap.size /\ w.cell? ⟨b, o + k, none⟩ = some (strV L[k]) := h k _ (List.getElem?_eq_getElem hk)
theorem SV.below {w w' : World} {L : List S} {a : Option Addr} (h : SV w L a) (hb : Below w.heap.size w w') : SV w' L a := fun j s hs => by
 obtain ⟨b, o, e, hl, hc⟩ := h j s hs
 exact ⟨b, o, e, Nat.lt_of_lt_of_le hl hb.size, (hb.cell hl).trans hc⟩
/-- a list of texts that a walk owns -/
def OwnS (B : Nat) (v : Value) (M : List S) (w : World) : Prop := w.ownsRow B 9 1 v M.length (M.map strV)
theorem OwnS.nil (B : Nat) (w : World) : OwnS B (.slice none 0 0) [] w := World.ownsRow_nil _ _ _ _
theorem OwnS.snoc {B : Nat} {v : Value} {M : List S} {s : S} {w : World} (h : w.ownsRow B 9 1 v (M.length + 1) (M.map strV ++ [.string ⟨s.toArray⟩])) : OwnS B v (M ++ [s]) w := by
 unfold OwnS
 rw [List.length_append, List.map_append]
 exact h
theorem OwnS.below {B : Nat} {v : Value} {M : List S} {w w' : World} (h : OwnS B v M w) (hb : Below w.heap.size w w') : OwnS B v M w' := kept_below h hb
theorem OwnS.form {B : Nat} {v : Value} {M : List S} {w : World} (h : OwnS B v M w) : ∃ a c, v = .slice a M.length c /\ SV w M a := by
 unfold OwnS at h
 by_cases h0 : M.length = 0
 ·obtain ⟨A', n', c', rfl⟩ := own_slice h
  obtain rfl := own_len h
  exact ⟨A', c', rfl, fun j s hs => by rw [List.eq_nil_of_length_eq_zero h0] at hs; cases hs⟩
 ·obtain ⟨g, cap, rfl, hg1, hg2⟩ := h.form (by omega)
  refine ⟨_, cap, rfl, fun j s hs => ⟨g, 0, rfl, hg2, ?_⟩⟩
  have e1 : (⟨g, 0, none⟩ : Addr).add j = ⟨g, 0 + j, none⟩ := by unfold Addr.add; split <;> simp_all
  rw [<- e1]
  refine h.cells (g := g) rfl j _ ?_
  rw [List.getElem?_map, hs]
  rfl
theorem OwnS.cap {B : Nat} {M : List S} {w : World} {a : Option Addr} {n c : Nat} (h : OwnS B (.slice a n c) M w) : M.length <= c := own_cap h
/-! ### texts -/
end Go.Proofs.YtnlimlboedohgaaGreatDoor.Px
