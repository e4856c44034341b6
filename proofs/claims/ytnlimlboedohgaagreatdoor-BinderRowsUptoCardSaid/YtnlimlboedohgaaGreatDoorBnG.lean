import Derived.Test.YtnlimlboedohgaaGreatDoorBnE
import Derived.Test.YtnlimlboedohgaaGreatDoorBnC
import Derived.Test.YtnlimlboedohgaaGreatDoorBnB
import Derived.Test.YtnlimlboedohgaaGreatDoorBnA
import Derived.Test.YtnlimlboedohgaaGreatDoorPxR
/-
  Whether a column exists; the columns of a valid table: the reference's. (Printed by gen_br13.py.)
-/
set_option maxHeartbeats 16000000
set_option maxRecDepth 100000
namespace Go.Proofs.YtnlimlboedohgaaGreatDoor.Px
open Go Go.RowKit Go.Proofs.YtnlimlboedohgaaGreatDoor.Ps
set_option linter.unusedVariables false
set_option linter.unusedSimpArgs false
/-- some error; none only where P holds -/
def ErrPost (w : World) (P : Prop) (e : Ending) (w' : World) : Prop := ∃ q : Int, e = .returned (.int .i64 q) /\ (q = 0 -> P) /\ Below w.heap.size w w'
def exB (i : Int) (n : Nat) : Bool := decide (0 <= i) && decide (i < (n : Int))
theorem exists13_call (L : List Col) (tn : S) (a a2 a3 a4 : Option Addr) (m n2 m2 n3 m3 n4 m4 : Nat) (i : Int) (w : World) : Calls Tryz.prog 54 #[.agg #[.string ⟨tn.toArray⟩, .slice a L.length m, .slice a2 n2 m2, .slice a3 n3 m3, .slice a4 n4 m4], .int .i64 i] w (Ret w (.bool (exB i L.length))) := by
 by_cases h0 : 0 <= i
 ·by_cases h1 : i < (L.length : Int)
  ·have HF : Hid (exB i L.length = true) := h_ (by unfold exB; simp [h0, h1])
   go_enter Tryz.func54, Tryz.ntmps54
   go_upto_region 1 with (fail)
   refine nA fun w1 hB hw1 hz1 => ?_
   have HW := h_ hw1
   have p1 := hB.cell 1 rfl
   clear hB hw1 hz1
   go_wp2_with fail
   go_ret
   exact ⟨by rw [HF.out]; rfl, HW.out⟩
  ·have HF : Hid (exB i L.length = false) := h_ (by unfold exB; simp [h1])
   go_enter Tryz.func54, Tryz.ntmps54
   go_upto_region 1 with (fail)
   refine nA fun w1 hB hw1 hz1 => ?_
   have HW := h_ hw1
   have p1 := hB.cell 1 rfl
   clear hB hw1 hz1
   go_wp2_with fail
   go_ret
   exact ⟨by rw [HF.out]; rfl, HW.out⟩
 ·have HF : Hid (exB i L.length = false) := h_ (by unfold exB; simp [h0])
  go_enter Tryz.func54, Tryz.ntmps54
  go_upto_region 1 with (fail)
  refine nA fun w1 hB hw1 hz1 => ?_
  have HW := h_ hw1
  have p1 := hB.cell 1 rfl
  clear hB hw1 hz1
  go_wp2_with fail
  go_ret
  exact ⟨by rw [HF.out]; rfl, HW.out⟩
theorem distinct_of {L : List Col} (h : ∀ i (hi : i < L.length), (i : Int) <= findV L L[i].nm) : Distinct L := by
 have key : ∀ i j (hi : i < L.length) (hj : j < L.length), L[i].nm = L[j].nm -> ¬ i < j := fun i j hi hj e hlt => by
  have h1 := h j hj
  rcases findV_cases L L[j].nm with ⟨_, h2⟩ | ⟨k, hk, h2, h3⟩
  ·exact h2 j hj rfl
  ·rw [h2] at h1
   -- the first index with that name is at most i
   have h4 : k <= i := by
    have : ∀ (l : List S) (s : S) (b k : Nat), findN s l b = some k -> ∀ i (hi : i < l.length), l[i] = s -> k <= b + i := by
     intro l
     induction l with
     | nil => intro s b k h; cases h
     | cons x l ih =>
      intro s b k h i hi e
      unfold findN at h
      split at h
      ·cases h; omega
      ·rename_i hne
       cases i with
       | zero => exact absurd e hne
       | succ i => have := ih s (b + 1) k h i (by simpa using hi) (by simpa using e); omega
    have hf : findN L[j].nm (L.map (·.nm)) 0 = some k := by
     unfold findV at h2
     cases hh : findN L[j].nm (L.map (·.nm)) 0 with
     | none => rw [hh] at h2; simp only at h2; omega
     | some k2 => rw [hh] at h2; simp only at h2; congr 1; omega
    have := this _ _ _ _ hf i (by simpa using hi) (by simpa using e)
    omega
   omega
 intro i j hi hj e
 have h1 := key i j hi hj e
 have h2 := key j i hj hi e.symm
 omega
theorem columns13_call (L : List Col) (tn : S) (a a2 a3 a4 : Option Addr) (m n2 m2 n3 m3 n4 m4 : Nat) (w : World) (hn : L.length <= 1000000) (hl : CL w L (.slice a L.length m)) : Calls Tryz.prog 25 #[.agg #[.string ⟨tn.toArray⟩, .slice a L.length m, .slice a2 n2 m2, .slice a3 n3 m3, .slice a4 n4 m4]] w (ErrPost w (Distinct L)) := by
 have HL := h_ hl
 clear hl
 go_enter Tryz.func25, Tryz.ntmps25
 go_upto_region 1 with (fail)
 refine nA fun w1 hB0 hw1 hz1 => ?_
 have HB0 := h_ hB0
 have HW1 := h_ hw1
 have p1 := hB0.cell 1 rfl
 clear hB0 hw1 hz1
 by_cases h1 : (L.length : Int) < 1
 ·go_wp2_with fail
  go_ret
  exact ⟨13, rfl, fun h => absurd h (by decide), HW1.out⟩
 ·by_cases h12 : (12 : Int) < (L.length : Int)
  ·go_wp2_with fail
   go_ret
   exact ⟨13, rfl, fun h => absurd h (by decide), HW1.out⟩
  ·go_upto_region 4 with (fail)
   go_loopw [3] (fun i wr => ∃ k : Nat, k <= L.length /\ i = .int .i64 (k : Int) /\ Hid (∀ j (hj : j < L.length), j < k -> (j : Int) <= findV L L[j].nm) /\ Below w1.heap.size w1 wr) (fun i _ => L.length - (intOf i).toNat)
   case atStart => exact ⟨0, Nat.zero_le _, rfl, h_ (fun j hj h => absurd h (by omega)), Below.refl _ _⟩
   case round =>
    obtain ⟨k, hk, rfl, HR, hb⟩ := hrel
    have HBr := h_ (HB0.out.below hb)
    have HBB := h_ hb
    have HWr := t_ HW1 hb
    clear hb p1
    have p1 := HBr.out.cell 1 rfl
    by_cases hlt : k < L.length
    ·have k1 : (k : Int) < (L.length : Int) := by omega
     have k0 : (0 : Int) <= (k : Int) := by omega
     obtain ⟨g, o, eq, hx, hec⟩ := HL.out.at_ hlt
     subst eq
     have c0 := hec.at0 HWr.out rfl
     have c1 := hec.at_ HWr.out (j := 1) rfl
     have c2 := hec.at_ HWr.out (j := 2) rfl
     have HST : Hid ((k : Int) <= findV L L[k].nm -> ∀ j (hj : j < L.length), j < k + 1 -> (j : Int) <= findV L L[j].nm) := h_ fun h j hj hjk => by
      by_cases e : j = k
      ·subst e; exact h
      ·exact HR.out j hj (by omega)
     clear hec
     generalize L[k].nm = nm at c0 HST
     generalize L[k].kind = kd at c1
     generalize L[k].nul = nl at c2
     go_upto_region 7 with (fail)
     refine nA fun w3 hB3 hw3 hsz3 => ?_
     have HB3 := h_ hB3
     have HC0 := h_ (HBr.out.below hw3)
     have HW3 := t_ HWr hw3
     have HBB3 := t_ HBB hw3
     clear hB3 hw3 hsz3 c0 c1 c2 p1 HBr HWr HBB
     have z0 := HB3.out.cell 0 rfl
     go_wp2_with fail
     refine (rname_at nm w3).mono ?_
     rintro e w4 ⟨rfl, hw4⟩
     have HD0 := h_ (HC0.out.below hw4)
     have HD3 := h_ (HB3.out.below hw4)
     have HW4 := t_ HW3 hw4
     have HBB4 := t_ HBB3 hw4
     clear hw4 z0 HB3 HC0 HW3 HBB3
     cases hnb : nameB nm with
     | false =>
      go_wp2_with fail
      go_ret
      exact ⟨1, rfl, fun h => absurd h (by decide), HW4.out⟩
     | true =>
      have z1 := HD3.out.cell 1 rfl
      by_cases g1 : kd < 1
      ·go_wp2_with fail
       go_ret
       exact ⟨7, rfl, fun h => absurd h (by decide), HW4.out⟩
      ·by_cases g3 : 3 < kd
       ·go_wp2_with fail
        go_ret
        exact ⟨7, rfl, fun h => absurd h (by decide), HW4.out⟩
       ·have z0 := HD3.out.cell 0 rfl
        obtain ⟨t0, t1, t2, t3, t4⟩ := HD0.out.c5
        go_wp2_with fail
        refine (find13_call L nm tn _ m _ _ _ w4 (by omega) (HL.out.kept HW4.out (Nat.le_refl _))).mono ?_
        rintro e w5 ⟨rfl, hw5⟩
        have HW5 := t_ HW4 hw5
        have HBB5 := t_ HBB4 hw5
        clear hw5 z0 z1 t0 t1 t2 t3 t4 HD0 HD3 HW4 HBB4
        generalize findV L nm = V at HST |-
        by_cases hv : V < (k : Int)
        ·go_wp2_with fail
         go_ret
         exact ⟨10, rfl, fun h => absurd h (by decide), HW5.out⟩
        ·have HN := h_ (HST.out (by omega))
         go_wp2_with fail
         go_roundw
         case rel => exact ⟨k + 1, by omega, by go_num, HN, HBB5.out⟩
         case measure => simp [intOf]; omega
    ·obtain rfl : k = L.length := by omega
     have d1 : decide ((L.length : Int) < (L.length : Int)) = false := decide_eq_false (by omega)
     have HD := h_ (distinct_of fun j hj => HR.out j hj hj)
     go_wp2_with fail
     go_ret
     exact ⟨0, rfl, fun _ => HD.out, HWr.out⟩
theorem key13_call (L : List Col) (K : List Int) (tn : S) (a a2 a3 a4 : Option Addr) (m m2 n3 m3 n4 m4 : Nat) (w : World) (hn : L.length <= 1000000) (hk : K.length <= 1099511627776) (hl : CL w L (.slice a L.length m)) (hi : IL w K (.slice a2 K.length m2)) : Calls Tryz.prog 26 #[.agg #[.string ⟨tn.toArray⟩, .slice a L.length m, .slice a2 K.length m2, .slice a3 n3 m3, .slice a4 n4 m4]] w (ErrPost w True) := by
 have HL := h_ hl
 have HI := h_ hi
 clear hl hi
 go_enter Tryz.func26, Tryz.ntmps26
 go_upto_region 1 with (fail)
 refine nA fun w1 hB0 hw1 hz1 => ?_
 have HB0 := h_ hB0
 have HW1 := h_ hw1
 have p2 := hB0.cell 2 rfl
 clear hB0 hw1 hz1
 by_cases h0 : K.length = 0
 ·have d0 : ((K.length : Int) == 0) = true := by simp [h0]
  have d0' : (K.length == 0) = true := by simp [h0]
  have d0'' : K.isEmpty = true := by cases K; rfl; simp at h0
  go_wp2_with fail
  go_ret
  exact ⟨25, rfl, fun _ => trivial, HW1.out⟩
 ·have d0 : ((K.length : Int) == 0) = false := by rw [beq_eq_false_iff_ne]; omega
  have d0' : (K.length == 0) = false := by rw [beq_eq_false_iff_ne]; omega
  have d0'' : K.isEmpty = false := by cases K; exact absurd rfl h0; rfl
  go_upto_region 4 with (fail)
  go_loopw [3] (fun i wr => ∃ k : Nat, k <= K.length /\ i = .int .i64 (k : Int) /\ Below w1.heap.size w1 wr) (fun i _ => K.length - (intOf i).toNat)
  case atStart => exact ⟨0, Nat.zero_le _, rfl, Below.refl _ _⟩
  case round =>
   obtain ⟨k, hkk, rfl, hb⟩ := hrel
   have HBr := h_ (HB0.out.below hb)
   have HBB := h_ hb
   have HWr := t_ HW1 hb
   clear hb p2
   have p2 := HBr.out.cell 2 rfl
   by_cases hlt : k < K.length
   ·have k1 : (k : Int) < (K.length : Int) := by omega
    have k0 : (0 : Int) <= (k : Int) := by omega
    obtain ⟨gk, ok, eq, hx, hec⟩ := HI.out.at_ hlt
    subst eq
    have HKC : Hid (EC w gk (ok + k) [.int .i64 K[k]]) := h_ (by simpa using hec)
    clear hec
    go_upto_region 6 with (fail)
    by_cases hex : exB K[k] L.length = true
    ·have HCN0 : Hid (∃ g o nl nm kd, a = some ⟨g, o, none⟩ /\ EC w g (o + K[k].toNat * 3) [.string nm, .int .i64 kd, .bool nl] /\ 0 <= K[k] /\ K[k] < (L.length : Int)) := h_ (by
      unfold exB at hex
      simp only [Bool.and_eq_true, decide_eq_true_eq] at hex
      obtain ⟨g, o, e, hx2, h2⟩ := HL.out.at_ (k := K[k].toNat) (by omega)
      exact ⟨g, o, _, _, _, e, h2, hex⟩)
     have HEX := h_ hex
     have HKD : Hid (0 < k -> ∃ kv2, EC w gk (ok + (k - 1)) [.int .i64 kv2]) := h_ fun h => by
      obtain ⟨g2, o2, e2, hx2, hec2⟩ := HI.out.at_ (k := k - 1) (by omega)
      cases e2
      exact ⟨_, by simpa using hec2⟩
     clear hex p2
     generalize K[k] = kv at HKC HEX HCN0
     obtain ⟨g, o, nl, nm, kd, ea, hcn, v0, v1⟩ := HCN0.out
     have HCN := h_ hcn
     clear hcn HCN0
     subst ea
     have HEC : Hid (∀ w', Calls Tryz.prog 54 #[.agg #[.string ⟨tn.toArray⟩, .slice (some ⟨g, o, none⟩) L.length m, .slice (some ⟨gk, ok, none⟩) K.length m2, .slice a3 n3 m3, .slice a4 n4 m4], .int .i64 kv] w' (Ret w' (.bool true))) := h_ fun w' => by
      have h9 := exists13_call L tn (some ⟨g, o, none⟩) (some ⟨gk, ok, none⟩) a3 a4 m K.length m2 n3 m3 n4 m4 kv w'
      rw [HEX.out] at h9
      exact h9
     by_cases hz : k = 0
     ·have HZ := h_ hz
      clear HKD hz
      refine Gr.region_grow 25 (by kernel_rfl) (by kernel_rfl) (fun w' => Below wr.heap.size wr w') ⟨rfl, rfl, rfl, Nat.le_refl _, fun _ _ => rfl⟩ ?_
      simp only [List.take_succ_cons, List.take_zero, List.drop_succ_cons, List.drop_zero]
      refine Gr.sn _ (by go_simp; intro w' hw'; have t0 := (HBr.out.below hw').cell 0 rfl; have t1 := (HBr.out.below hw').cell 1 rfl; have t2 := (HBr.out.below hw').cell 2 rfl; have t3 := (HBr.out.below hw').cell 3 rfl; have t4 := (HBr.out.below hw').cell 4 rfl; go_simp; rw [Gr.grown_value]) fun K hK => ?_; go_simp; refine hK _ ?_; clear hK K
      refine Gr.sn _ (by go_simp; intro w' hw'; go_simp; rw [Gr.grown_value]) fun K hK => ?_; go_simp; refine hK _ ?_; clear hK K
      refine Gr.sn _ (by go_simp; intro w' hw'; have t2 := (HBr.out.below hw').cell 2 rfl; go_simp; rw [Gr.grown_value]) fun K hK => ?_; go_simp; refine hK _ ?_; clear hK K
      iterate 2
       refine Gr.sn _ (by go_simp; intro w' hw'; go_simp; rw [Gr.grown_value]) fun K hK => ?_; go_simp; refine hK _ ?_; clear hK K
      refine Gr.sn _ (by go_simp; intro w' hw'; have e0 := HKC.out.at0 (HWr.out.trans (hw'.mono HWr.out.size)) rfl; go_simp; rw [Gr.grown_value]) fun K hK => ?_; go_simp; refine hK _ ?_; clear hK K
      refine Gr.sn (.bool true) (by go_simp; intro w' hw'; go_simp; rw [Gr.grown_enter]; exact Ret.fam (HEC.out w') hw') fun K hK => ?_; go_simp; refine hK _ ?_; clear hK K
      iterate 3
       refine Gr.sn _ (by go_simp; intro w' hw'; go_simp; rw [Gr.grown_value]) fun K hK => ?_; go_simp; refine hK _ ?_; clear hK K
      refine Gr.sn (.bool false) (by go_simp; intro w' hw'; have kz : decide (0 < k) = false := decide_eq_false (by have := HZ.out; omega); go_simp; rw [Gr.grown_value]) fun K hK => ?_; go_simp; refine hK _ ?_; clear hK K
      refine Gr.sn (.bool false) (by go_simp; intro w' hw'; go_simp; rw [Gr.grown_value]) fun K hK => ?_; go_simp; refine hK _ ?_; clear hK K
      iterate 12
       refine Gr.sn undef (by go_simp; try (intro hz; cases hz)) fun K hK => ?_; go_simp; refine hK _ ?_; clear hK K
      refine Gr.sn (.bool false) (by go_simp; intro w' hw'; go_simp; rw [Gr.grown_value]) fun K hK => ?_; go_simp; refine hK _ ?_; clear hK K
      refine Gr.line_nil fun w4 hw4 => ?_
      have HD0 := h_ (HBr.out.below hw4)
      have HW4 := t_ HWr hw4
      have HBB4 := t_ HBB hw4
      clear hw4
      go_upto_region 8 with (fail)
      refine Gr.region_grow 9 (by kernel_rfl) (by kernel_rfl) (fun w' => Below w4.heap.size w4 w') ⟨rfl, rfl, rfl, Nat.le_refl _, fun _ _ => rfl⟩ ?_
      simp only [List.take_succ_cons, List.take_zero, List.drop_succ_cons, List.drop_zero]
      refine Gr.sn _ (by go_simp; intro w' hw'; go_simp; rw [Gr.grown_value]) fun K hK => ?_; go_simp; refine hK _ ?_; clear hK K
      refine Gr.sn _ (by go_simp; intro w' hw'; have t1 := (HD0.out.below hw').cell 1 rfl; go_simp; rw [Gr.grown_value]) fun K hK => ?_; go_simp; refine hK _ ?_; clear hK K
      refine Gr.sn _ (by go_simp; intro w' hw'; go_simp; rw [Gr.grown_value]) fun K hK => ?_; go_simp; refine hK _ ?_; clear hK K
      refine Gr.sn _ (by go_simp; intro w' hw'; have t2 := (HD0.out.below hw').cell 2 rfl; go_simp; rw [Gr.grown_value]) fun K hK => ?_; go_simp; refine hK _ ?_; clear hK K
      iterate 2
       refine Gr.sn _ (by go_simp; intro w' hw'; go_simp; rw [Gr.grown_value]) fun K hK => ?_; go_simp; refine hK _ ?_; clear hK K
      refine Gr.sn _ (by go_simp; intro w' hw'; have e0 := HKC.out.at0 (HW4.out.trans (hw'.mono HW4.out.size)) rfl; go_simp; rw [Gr.grown_value]) fun K hK => ?_; go_simp; refine hK _ ?_; clear hK K
      iterate 2
       refine Gr.sn _ (by go_simp; intro w' hw'; go_simp; rw [Gr.grown_value]) fun K hK => ?_; go_simp; refine hK _ ?_; clear hK K
      refine Gr.line_nil fun w5 hw5 => ?_
      have c2 := HCN.out.at_ (HW4.out.trans (hw5.mono HW4.out.size)) (j := 2) rfl
      have HBB5 := t_ HBB4 hw5
      have HW5 := t_ HW4 hw5
      clear hw5
      cases nl with
      | true =>
       go_wp2_with fail
       go_ret
       exact ⟨12, rfl, fun _ => trivial, HW5.out⟩
      | false =>
       go_wp2_with fail
       go_roundw
       case rel => exact ⟨k + 1, by omega, by go_num, HBB5.out⟩
       case measure => simp [intOf]; omega
     ·obtain ⟨kv2, hkd⟩ := HKD.out (by omega)
      have HKD : Hid (EC w gk (ok + (k - 1)) [.int .i64 kv2]) := h_ hkd
      have kp : 0 < k := by omega
      clear hkd
      refine Gr.region_grow 25 (by kernel_rfl) (by kernel_rfl) (fun w' => Below wr.heap.size wr w') ⟨rfl, rfl, rfl, Nat.le_refl _, fun _ _ => rfl⟩ ?_
      simp only [List.take_succ_cons, List.take_zero, List.drop_succ_cons, List.drop_zero]
      refine Gr.sn _ (by go_simp; intro w' hw'; have t0 := (HBr.out.below hw').cell 0 rfl; have t1 := (HBr.out.below hw').cell 1 rfl; have t2 := (HBr.out.below hw').cell 2 rfl; have t3 := (HBr.out.below hw').cell 3 rfl; have t4 := (HBr.out.below hw').cell 4 rfl; go_simp; rw [Gr.grown_value]) fun K hK => ?_; go_simp; refine hK _ ?_; clear hK K
      refine Gr.sn _ (by go_simp; intro w' hw'; go_simp; rw [Gr.grown_value]) fun K hK => ?_; go_simp; refine hK _ ?_; clear hK K
      refine Gr.sn _ (by go_simp; intro w' hw'; have t2 := (HBr.out.below hw').cell 2 rfl; go_simp; rw [Gr.grown_value]) fun K hK => ?_; go_simp; refine hK _ ?_; clear hK K
      iterate 2
       refine Gr.sn _ (by go_simp; intro w' hw'; go_simp; rw [Gr.grown_value]) fun K hK => ?_; go_simp; refine hK _ ?_; clear hK K
      refine Gr.sn _ (by go_simp; intro w' hw'; have e0 := HKC.out.at0 (HWr.out.trans (hw'.mono HWr.out.size)) rfl; go_simp; rw [Gr.grown_value]) fun K hK => ?_; go_simp; refine hK _ ?_; clear hK K
      refine Gr.sn (.bool true) (by go_simp; intro w' hw'; go_simp; rw [Gr.grown_enter]; exact Ret.fam (HEC.out w') hw') fun K hK => ?_; go_simp; refine hK _ ?_; clear hK K
      iterate 6
       refine Gr.sn _ (by go_simp; intro w' hw'; go_simp; rw [Gr.grown_value]) fun K hK => ?_; go_simp; refine hK _ ?_; clear hK K
      refine Gr.sn _ (by go_simp; intro w' hw'; have t2 := (HBr.out.below hw').cell 2 rfl; go_simp; rw [Gr.grown_value]) fun K hK => ?_; go_simp; refine hK _ ?_; clear hK K
      iterate 2
       refine Gr.sn _ (by go_simp; intro w' hw'; go_simp; rw [Gr.grown_value]) fun K hK => ?_; go_simp; refine hK _ ?_; clear hK K
      refine Gr.sn _ (by go_simp; intro w' hw'; have e0 := HKC.out.at0 (HWr.out.trans (hw'.mono HWr.out.size)) rfl; go_simp; rw [Gr.grown_value]) fun K hK => ?_; go_simp; refine hK _ ?_; clear hK K
      refine Gr.sn _ (by go_simp; intro w' hw'; go_simp; rw [Gr.grown_value]) fun K hK => ?_; go_simp; refine hK _ ?_; clear hK K
      refine Gr.sn _ (by go_simp; intro w' hw'; have t2 := (HBr.out.below hw').cell 2 rfl; go_simp; rw [Gr.grown_value]) fun K hK => ?_; go_simp; refine hK _ ?_; clear hK K
      refine Gr.sn _ (by go_simp; intro w' hw'; go_simp; rw [Gr.grown_value]) fun K hK => ?_; go_simp; refine hK _ ?_; clear hK K
      refine Gr.sn (.int .i64 ((k : Int) - 1)) (by go_simp; intro w' hw'; have kw : IntKind.i64.wrap ((k : Int) - 1) = (k : Int) - 1 := Go.IntWalk.i64_in _ (by omega); go_simp; rw [Gr.grown_value]) fun K hK => ?_; go_simp; refine hK _ ?_; clear hK K
      refine Gr.sn (.pointer (some ⟨gk, ok + (k - 1), none⟩)) (by go_simp; intro w' hw'; have kn : ((k : Int) - 1).toNat = k - 1 := (by omega); have ka : 0 <= (k : Int) - 1 := (by omega); have kc : 1 <= (k : Int) := (by omega); have kb : (k : Int) - 1 < (K.length : Int) := (by omega); go_simp; rw [Gr.grown_value]) fun K hK => ?_; go_simp; refine hK _ ?_; clear hK K
      refine Gr.sn _ (by go_simp; intro w' hw'; have e1 := HKD.out.at0 (HWr.out.trans (hw'.mono HWr.out.size)) rfl; go_simp; rw [Gr.grown_value]) fun K hK => ?_; go_simp; refine hK _ ?_; clear hK K
      iterate 2
       refine Gr.sn _ (by go_simp; intro w' hw'; go_simp; rw [Gr.grown_value]) fun K hK => ?_; go_simp; refine hK _ ?_; clear hK K
      refine Gr.line_nil fun w4 hw4 => ?_
      have HD0 := h_ (HBr.out.below hw4)
      have HW4 := t_ HWr hw4
      have HBB4 := t_ HBB hw4
      clear hw4
      by_cases hle : kv <= kv2
      ·go_wp2_with fail
       go_ret
       exact ⟨25, rfl, fun _ => trivial, HW4.out⟩
      ·have hle2 : kv2 < kv := by omega
       clear hle
       go_upto_region 8 with (fail)
       refine Gr.region_grow 9 (by kernel_rfl) (by kernel_rfl) (fun w' => Below w4.heap.size w4 w') ⟨rfl, rfl, rfl, Nat.le_refl _, fun _ _ => rfl⟩ ?_
       simp only [List.take_succ_cons, List.take_zero, List.drop_succ_cons, List.drop_zero]
       refine Gr.sn _ (by go_simp; intro w' hw'; go_simp; rw [Gr.grown_value]) fun K hK => ?_; go_simp; refine hK _ ?_; clear hK K
       refine Gr.sn _ (by go_simp; intro w' hw'; have t1 := (HD0.out.below hw').cell 1 rfl; go_simp; rw [Gr.grown_value]) fun K hK => ?_; go_simp; refine hK _ ?_; clear hK K
       refine Gr.sn _ (by go_simp; intro w' hw'; go_simp; rw [Gr.grown_value]) fun K hK => ?_; go_simp; refine hK _ ?_; clear hK K
       refine Gr.sn _ (by go_simp; intro w' hw'; have t2 := (HD0.out.below hw').cell 2 rfl; go_simp; rw [Gr.grown_value]) fun K hK => ?_; go_simp; refine hK _ ?_; clear hK K
       iterate 2
        refine Gr.sn _ (by go_simp; intro w' hw'; go_simp; rw [Gr.grown_value]) fun K hK => ?_; go_simp; refine hK _ ?_; clear hK K
       refine Gr.sn _ (by go_simp; intro w' hw'; have e0 := HKC.out.at0 (HW4.out.trans (hw'.mono HW4.out.size)) rfl; go_simp; rw [Gr.grown_value]) fun K hK => ?_; go_simp; refine hK _ ?_; clear hK K
       iterate 2
        refine Gr.sn _ (by go_simp; intro w' hw'; go_simp; rw [Gr.grown_value]) fun K hK => ?_; go_simp; refine hK _ ?_; clear hK K
       refine Gr.line_nil fun w5 hw5 => ?_
       have c2 := HCN.out.at_ (HW4.out.trans (hw5.mono HW4.out.size)) (j := 2) rfl
       have HBB5 := t_ HBB4 hw5
       have HW5 := t_ HW4 hw5
       clear hw5
       cases nl with
       | true =>
        go_wp2_with fail
        go_ret
        exact ⟨12, rfl, fun _ => trivial, HW5.out⟩
       | false =>
        go_wp2_with fail
        go_roundw
        case rel => exact ⟨k + 1, by omega, by go_num, HBB5.out⟩
        case measure => simp [intOf]; omega
    ·have HEX : Hid (exB K[k] L.length = false) := h_ (by simpa using hex)
     clear hex p2
     generalize K[k] = kv at HKC HEX
     have HEC : Hid (∀ w', Calls Tryz.prog 54 #[.agg #[.string ⟨tn.toArray⟩, .slice a L.length m, .slice (some ⟨gk, ok, none⟩) K.length m2, .slice a3 n3 m3, .slice a4 n4 m4], .int .i64 kv] w' (Ret w' (.bool false))) := h_ fun w' => by
      have h9 := exists13_call L tn a (some ⟨gk, ok, none⟩) a3 a4 m K.length m2 n3 m3 n4 m4 kv w'
      rw [HEX.out] at h9
      exact h9
     refine Gr.region_grow 25 (by kernel_rfl) (by kernel_rfl) (fun w' => Below wr.heap.size wr w') ⟨rfl, rfl, rfl, Nat.le_refl _, fun _ _ => rfl⟩ ?_
     simp only [List.take_succ_cons, List.take_zero, List.drop_succ_cons, List.drop_zero]
     refine Gr.sn _ (by go_simp; intro w' hw'; have t0 := (HBr.out.below hw').cell 0 rfl; have t1 := (HBr.out.below hw').cell 1 rfl; have t2 := (HBr.out.below hw').cell 2 rfl; have t3 := (HBr.out.below hw').cell 3 rfl; have t4 := (HBr.out.below hw').cell 4 rfl; go_simp; rw [Gr.grown_value]) fun K hK => ?_; go_simp; refine hK _ ?_; clear hK K
     refine Gr.sn _ (by go_simp; intro w' hw'; go_simp; rw [Gr.grown_value]) fun K hK => ?_; go_simp; refine hK _ ?_; clear hK K
     refine Gr.sn _ (by go_simp; intro w' hw'; have t2 := (HBr.out.below hw').cell 2 rfl; go_simp; rw [Gr.grown_value]) fun K hK => ?_; go_simp; refine hK _ ?_; clear hK K
     iterate 2
      refine Gr.sn _ (by go_simp; intro w' hw'; go_simp; rw [Gr.grown_value]) fun K hK => ?_; go_simp; refine hK _ ?_; clear hK K
     refine Gr.sn _ (by go_simp; intro w' hw'; have e0 := HKC.out.at0 (HWr.out.trans (hw'.mono HWr.out.size)) rfl; go_simp; rw [Gr.grown_value]) fun K hK => ?_; go_simp; refine hK _ ?_; clear hK K
     refine Gr.sn (.bool false) (by go_simp; intro w' hw'; go_simp; rw [Gr.grown_enter]; exact Ret.fam (HEC.out w') hw') fun K hK => ?_; go_simp; refine hK _ ?_; clear hK K
     iterate 2
      refine Gr.sn _ (by go_simp; intro w' hw'; go_simp; rw [Gr.grown_value]) fun K hK => ?_; go_simp; refine hK _ ?_; clear hK K
     iterate 16
      refine Gr.sn undef (by go_simp; try (intro hz; cases hz)) fun K hK => ?_; go_simp; refine hK _ ?_; clear hK K
     refine Gr.line_nil fun w4 hw4 => ?_
     have HD0 := h_ (HBr.out.below hw4)
     have HW4 := t_ HWr hw4
     have HBB4 := t_ HBB hw4
     clear hw4
     go_wp2_with fail
     go_ret
     exact ⟨25, rfl, fun _ => trivial, HW4.out⟩
   ·obtain rfl : k = K.length := by omega
    have d1 : decide ((K.length : Int) < (K.length : Int)) = false := decide_eq_false (by omega)
    go_wp2_with fail
    go_ret
    exact ⟨0, rfl, fun _ => trivial, HWr.out⟩
theorem foreign13_call (L : List Col) (F : List Int) (tn tb : S) (a a2 a3 a4 fa : Option Addr) (m n2 m2 n3 m3 n4 m4 fm : Nat) (w : World) (hk : F.length <= 1099511627776) (hi : IL w F (.slice fa F.length fm)) : Calls Tryz.prog 55 #[.agg #[.string ⟨tn.toArray⟩, .slice a L.length m, .slice a2 n2 m2, .slice a3 n3 m3, .slice a4 n4 m4], .agg #[.slice fa F.length fm, .string ⟨tb.toArray⟩]] w (ErrPost w True) := by
 have HI := h_ hi
 clear hi
 go_enter Tryz.func55, Tryz.ntmps55
 go_upto_region 1 with (fail)
 refine nB fun w1 hA0 hB0 hw1 hz1 => ?_
 have HA1 := h_ hA0
 have HB1 := h_ hB0
 have HW1 := h_ hw1
 have u1 := hB0.cell 1 rfl
 clear hA0 hB0 hw1 hz1
 go_wp2_with fail
 refine (rname_at tb w1).mono ?_
 rintro e w2 ⟨rfl, hw2⟩
 have HA2 := h_ (HA1.out.below hw2)
 have HB2 := h_ (HB1.out.below hw2)
 have HW2 := t_ HW1 hw2
 clear hw2 HA1 HB1 HW1 u1
 cases hnb : nameB tb with
 | false =>
  go_wp2_with fail
  go_ret
  exact ⟨1, rfl, fun _ => trivial, HW2.out⟩
 | true =>
  clear hnb
  have u0 := HB2.out.cell 0 rfl
  by_cases h0 : F.length = 0
  ·have d0 : ((F.length : Int) == 0) = true := by simp [h0]
   have d0' : (F.length == 0) = true := by simp [h0]
   have d0'' : F.isEmpty = true := by cases F; rfl; simp at h0
   go_wp2_with fail
   go_ret
   exact ⟨25, rfl, fun _ => trivial, HW2.out⟩
  ·have d0 : ((F.length : Int) == 0) = false := by rw [beq_eq_false_iff_ne]; omega
   have d0' : (F.length == 0) = false := by rw [beq_eq_false_iff_ne]; omega
   have d0'' : F.isEmpty = false := by cases F; exact absurd rfl h0; rfl
   go_upto_region 6 with (fail)
   go_loopw [5, 6] (fun i _ wr => ∃ k : Nat, k <= F.length /\ i = .int .i64 (k : Int) /\ Below w2.heap.size w2 wr) (fun i _ _ => F.length - (intOf i).toNat)
   case atStart => exact ⟨0, Nat.zero_le _, rfl, Below.refl _ _⟩
   case round =>
    obtain ⟨k, hkk, rfl, hb⟩ := hrel
    have HAr := h_ (HA2.out.below hb)
    have HBr := h_ (HB2.out.below hb)
    have HBB := h_ hb
    have HWr := t_ HW2 hb
    clear hb u0 d0 d0' d0'' h0
    have u0 := HBr.out.cell 0 rfl
    by_cases hlt : k < F.length
    ·have k1 : (k : Int) < (F.length : Int) := by omega
     have k0 : (0 : Int) <= (k : Int) := by omega
     obtain ⟨gk, ok, eq, hx, hec⟩ := HI.out.at_ hlt
     subst eq
     have HKC : Hid (EC w gk (ok + k) [.int .i64 F[k]]) := h_ (by simpa using hec)
     have HEC : Hid (∀ w', Calls Tryz.prog 54 #[.agg #[.string ⟨tn.toArray⟩, .slice a L.length m, .slice a2 n2 m2, .slice a3 n3 m3, .slice a4 n4 m4], .int .i64 F[k]] w' (Ret w' (.bool (exB F[k] L.length)))) := h_ fun w' => exists13_call L tn a a2 a3 a4 m n2 m2 n3 m3 n4 m4 F[k] w'
     clear hec
     generalize F[k] = kv at HKC HEC
     generalize exB kv L.length = bx at HEC
     go_upto_region 8 with (fail)
     clear u0
     refine Gr.region_grow 7 (by kernel_rfl) (by kernel_rfl) (fun w' => Below wr.heap.size wr w') ⟨rfl, rfl, rfl, Nat.le_refl _, fun _ _ => rfl⟩ ?_
     simp only [List.take_succ_cons, List.take_zero, List.drop_succ_cons, List.drop_zero]
     iterate 7
      first
      | apply Gr.sn (.bool bx); focus (go_simp; intro w' hw'; go_simp; rw [Gr.grown_enter]; exact Ret.fam (HEC.out w') hw'; done)
      | apply Gr.sn; focus (go_simp; intro w' hw'; go_simp; rw [Gr.grown_value]; done)
      | apply Gr.sn; focus (go_simp; intro w' hw'; have u0 := (HBr.out.below hw').cell 0 rfl; go_simp; rw [Gr.grown_value]; done)
      | apply Gr.sn; focus (go_simp; intro w' hw'; have e0 := HKC.out.at0 (HWr.out.trans (hw'.mono HWr.out.size)) rfl; go_simp; rw [Gr.grown_value]; done)
      | apply Gr.sn; focus (go_simp; intro w' hw'; have t0 := (HAr.out.below hw').cell 0 rfl; have t1 := (HAr.out.below hw').cell 1 rfl; have t2 := (HAr.out.below hw').cell 2 rfl; have t3 := (HAr.out.below hw').cell 3 rfl; have t4 := (HAr.out.below hw').cell 4 rfl; go_simp; rw [Gr.grown_value]; done)
      intro K hK; go_simp; refine hK _ ?_; clear hK K
     refine Gr.line_nil fun w4 hw4 => ?_
     have HA4 := h_ (HAr.out.below hw4)
     have HB4 := h_ (HBr.out.below hw4)
     have HW4 := t_ HWr hw4
     have HBB4 := t_ HBB hw4
     clear hw4 HEC HAr HBr HWr HBB
     cases bx with
     | false =>
      go_wp2_with fail
      go_ret
      exact ⟨25, rfl, fun _ => trivial, HW4.out⟩
     | true =>
      go_upto_region 11 with (fail)
      go_loopw [6] (fun j wi => ∃ q : Nat, q <= k /\ j = .int .i64 (q : Int) /\ Below w4.heap.size w4 wi) (fun j _ => k - (intOf j).toNat)
      case atStart => exact ⟨0, Nat.zero_le _, rfl, Below.refl _ _⟩
      case round =>
       obtain ⟨q, hq, rfl, hb⟩ := hrel
       have HA5 := h_ (HA4.out.below hb)
       have HB5 := h_ (HB4.out.below hb)
       have HBI := h_ hb
       have HW5 := t_ HW4 hb
       have HBB5 := t_ HBB4 hb
       clear hb
       by_cases hlq : q < k
       ·have q1 : (q : Int) < (k : Int) := by omega
        have q2 : (q : Int) < (F.length : Int) := by omega
        have q0 : (0 : Int) <= (q : Int) := by omega
        have HKD : Hid (∃ v, EC w gk (ok + q) [.int .i64 v]) := h_ (by
         obtain ⟨g2, o2, e2, hx2, hec2⟩ := HI.out.at_ (k := q) (by omega)
         cases e2
         exact ⟨_, by simpa using hec2⟩)
        obtain ⟨kw, hkd⟩ := HKD.out
        have HKD := h_ hkd
        clear hkd
        go_upto_region 13 with (fail)
        refine Gr.region_grow 10 (by kernel_rfl) (by kernel_rfl) (fun w' => Below wr.heap.size wr w') ⟨rfl, rfl, rfl, Nat.le_refl _, fun _ _ => rfl⟩ ?_
        simp only [List.take_succ_cons, List.take_zero, List.drop_succ_cons, List.drop_zero]
        iterate 10
         first
         | apply Gr.sn; focus (go_simp; intro w' hw'; go_simp; rw [Gr.grown_value]; done)
         | apply Gr.sn; focus (go_simp; intro w' hw'; have u0 := (HB5.out.below hw').cell 0 rfl; go_simp; rw [Gr.grown_value]; done)
         | apply Gr.sn; focus (go_simp; intro w' hw'; have e1 := HKD.out.at0 (HW5.out.trans (hw'.mono HW5.out.size)) rfl; go_simp; rw [Gr.grown_value]; done)
         | apply Gr.sn; focus (go_simp; intro w' hw'; have e0 := HKC.out.at0 (HW5.out.trans (hw'.mono HW5.out.size)) rfl; go_simp; rw [Gr.grown_value]; done)
         intro K hK; go_simp; refine hK _ ?_; clear hK K
        refine Gr.line_nil fun w6 hw6 => ?_
        have HW6 := t_ HW5 hw6
        have HBI6 := t_ HBI hw6
        clear hw6
        by_cases he : kw = kv
        ·have d1 : (kw == kv) = true := by simp [he]
         go_wp2_with fail
         go_ret
         exact ⟨25, rfl, fun _ => trivial, HW6.out⟩
        ·have d1 : (kw == kv) = false := by simp [he]
         go_wp2_with fail
         go_roundw
         case rel => exact ⟨q + 1, by omega, by go_num, HBI6.out⟩
         case measure => simp [intOf]; omega
       ·obtain rfl : q = k := by omega
        have d1 : decide ((q : Int) < (q : Int)) = false := decide_eq_false (by omega)
        go_wp2_with fail
        go_roundw
        case rel => exact ⟨q + 1, by omega, by go_num, HBB5.out⟩
        case measure => simp [intOf]; omega
    ·obtain rfl : k = F.length := by omega
     have d1 : decide ((F.length : Int) < (F.length : Int)) = false := decide_eq_false (by omega)
     go_wp2_with fail
     go_ret
     exact ⟨0, rfl, fun _ => trivial, HWr.out⟩
theorem constraints13_call (L : List Col) (Fs : List Fkey) (Cs : List X) (tn : S) (a a2 a3 a4 : Option Addr) (m n2 m2 m3 m4 : Nat) (w : World) (hL : L.length <= 1000000) (hfl : ∀ f ∈ Fs, f.cols.length <= 1099511627776) (hcs : ∀ x ∈ Cs, nodes x <= 1000000 /\ shortX x) (hl : CL w L (.slice a L.length m)) (hf : FL w Fs (.slice a3 Fs.length m3)) (hx : XL w Cs (.slice a4 Cs.length m4)) : Calls Tryz.prog 27 #[.agg #[.string ⟨tn.toArray⟩, .slice a L.length m, .slice a2 n2 m2, .slice a3 Fs.length m3, .slice a4 Cs.length m4]] w (ErrPost w True) := by
 have HL := h_ hl
 have HF := h_ hf
 have HX := h_ hx
 have HFL := h_ hfl
 have HCS := h_ hcs
 clear hl hf hx hfl hcs
 go_enter Tryz.func27, Tryz.ntmps27
 go_upto_region 1 with (fail)
 refine nA fun w1 hB0 hw1 hz1 => ?_
 have HB0 := h_ hB0
 have HW1 := h_ hw1
 have p3 := hB0.cell 3 rfl
 clear hB0 hw1 hz1
 by_cases h4 : (4 : Int) < (Fs.length : Int)
 ·go_wp2_with fail
  go_ret
  exact ⟨5, rfl, fun _ => trivial, HW1.out⟩
 ·go_upto_region 4 with (fail)
  go_loopw [3, 4] (fun i _ wr => ∃ k : Nat, k <= Fs.length /\ i = .int .i64 (k : Int) /\ Below w1.heap.size w1 wr) (fun i _ _ => Fs.length - (intOf i).toNat)
  case atStart => exact ⟨0, Nat.zero_le _, rfl, Below.refl _ _⟩
  case round =>
   obtain ⟨k, hkk, rfl, hb⟩ := hrel
   have HBr := h_ (HB0.out.below hb)
   have HBB := h_ hb
   have HWr := t_ HW1 hb
   clear hb p3
   have p3 := HBr.out.cell 3 rfl
   by_cases hlt : k < Fs.length
   ·have k1 : (k : Int) < (Fs.length : Int) := by omega
    have k0 : (0 : Int) <= (k : Int) := by omega
    obtain ⟨g, o, eq, hxx, b, c, hec, hil⟩ := HF.out.at_ hlt
    subst eq
    have c0 := hec.at0 HWr.out rfl
    have c1 := hec.at_ HWr.out (j := 1) rfl
    have HFC : Hid (∀ w', Below w.heap.size w w' -> Calls Tryz.prog 55 #[.agg #[.string ⟨tn.toArray⟩, .slice a L.length m, .slice a2 n2 m2, .slice (some ⟨g, o, none⟩) Fs.length m3, .slice a4 Cs.length m4], .agg #[.slice b Fs[k].cols.length c, .string ⟨Fs[k].tb.toArray⟩]] w' (ErrPost w' True)) := h_ fun w' hw' => foreign13_call L Fs[k].cols tn Fs[k].tb a a2 _ a4 b m n2 m2 _ m3 _ m4 c w' (HFL.out _ (List.getElem_mem _)) (hil.kept hw' (Nat.le_refl _))
    clear hec hil
    generalize Fs[k].cols.length = fl at c0 HFC
    generalize Fs[k].tb = tb at c1 HFC
    have t0 := HBr.out.cell 0 rfl
    have t1 := HBr.out.cell 1 rfl
    have t2 := HBr.out.cell 2 rfl
    have t4 := HBr.out.cell 4 rfl
    have hgd : Below w.heap.size w wr.drew := below_drew HWr.out
    go_upto_region 6 with (fail)
    go_region_law (go_simp; go_at_call 55; refine (HFC.out wr.drew hgd).mono ?_; rintro e w8 ⟨q, rfl, _, hw8⟩; have hb8 : Below wr.heap.size wr w8 := below_undrew hw8)
    all_goals
     have HW8 := t_ HWr hb8
     have HBB8 := t_ HBB hb8
     clear hb8 hw8 hgd t0 t1 t2 t4 c0 c1 p3
     by_cases hq : q = 0
     ·subst hq
      go_wp2_with fail
      go_roundw
      case rel => exact ⟨k + 1, by omega, by go_num, HBB8.out⟩
      case measure => simp [intOf]; omega
     ·have dq : (q != 0) = true := by simp [hq]
      go_wp2_with fail
      go_ret
      exact ⟨q, rfl, fun _ => trivial, HW8.out⟩
   ·obtain rfl : k = Fs.length := by omega
    have d1 : decide ((Fs.length : Int) < (Fs.length : Int)) = false := decide_eq_false (by omega)
    have p4 := HBr.out.cell 4 rfl
    by_cases hc4 : (4 : Int) < (Cs.length : Int)
    ·go_wp2_with fail
     go_ret
     exact ⟨5, rfl, fun _ => trivial, HWr.out⟩
    ·go_upto_region 12 with (fail)
     go_loopw [5, 6, 7] (fun i _ _ ws => ∃ k : Nat, k <= Cs.length /\ i = .int .i64 (k : Int) /\ Below wr.heap.size wr ws) (fun i _ _ _ => Cs.length - (intOf i).toNat)
     case atStart => exact ⟨0, Nat.zero_le _, rfl, Below.refl _ _⟩
     case round =>
      obtain ⟨k, hkk2, rfl, hb⟩ := hrel
      have HBs := h_ (HBr.out.below hb)
      have HSS := h_ hb
      have HWs := t_ HWr hb
      clear hb p3 p4
      have p4 := HBs.out.cell 4 rfl
      by_cases hlt2 : k < Cs.length
      ·have k1 : (k : Int) < (Cs.length : Int) := by omega
       have k0 : (0 : Int) <= (k : Int) := by omega
       obtain ⟨g, o, us, eq, hgl, hcell, hxx, hxr⟩ := HX.out.at_ hlt2
       subst eq
       have hnx := HCS.out _ (List.getElem_mem hxx)
       have HKC : Hid (EC w g (o + k * 7) us) := h_ ⟨hgl, hcell⟩
       have HCH : Hid (∀ w8 g8 c8 b8, Below w.heap.size w w8 -> OwnI b8 (.slice (some ⟨g8, 0, none⟩) L.length c8) (kindsC L) w8 -> Calls Tryz.prog 56 #[.agg us.toArray, .slice (some ⟨g8, 0, none⟩) L.length c8] w8 (Ret w8 (TupII (chk (kindsC L) Cs[k])))) := h_ fun w8 g8 c8 b8 hw8 ho => by
        have h9 := rCheck_call Cs[k] us w8 (kindsC L) (some ⟨g8, 0, none⟩) c8 hnx.1 hnx.2 (by rw [kindsC_len]; exact hL) (by obtain ⟨a', c', e, h⟩ := ho.form; injection e with e1 e2 e3; subst e1; exact h) (hxr.kept hw8 (Nat.le_refl _))
        rw [kindsC_len] at h9
        exact h9
       clear hcell hnx
       generalize Cs[k] = x at hxr HCH
       generalize chk (kindsC L) x = R at HCH
       obtain ⟨R1, R2⟩ := R
       obtain ⟨op, int, vk, vi, vs, nm, l⟩ := x
       obtain ⟨ax, mx, rfl, _⟩ := hxr.lits
       clear hxr hgl
       obtain ⟨e0, e1, e2, e3, e4, e5, e6⟩ := HKC.out.c7 HWs.out
       have t0 := HBs.out.cell 0 rfl
       have t1 := HBs.out.cell 1 rfl
       have t2 := HBs.out.cell 2 rfl
       have t3 := HBs.out.cell 3 rfl
       have hgd : Below w.heap.size w wr.drew := below_drew HWs.out
       unfold TupII at HCH
       go_upto_region 14 with (fail)
       go_region_law (first | (go_simp; go_at_call 57; refine (kinds13_call L tn a m _ _ _ wr.drew hL (HL.out.kept hgd (Nat.le_refl _))).mono ?_; rintro e w8 ⟨g8, c8, rfl, ho8, hw8⟩; have hb8 : Below wr.heap.size wr w8 := below_undrew hw8; have hq8 := HBs.out.below hb8; have p4 := hq8.cell 4 rfl; have hy8 := HWs.out.trans (hb8.mono HWs.out.size); have HC8 := HCH.out w8 g8 c8 _ hy8 ho8; have e0 := HKC.out.at0 hy8 rfl; have e1 := HKC.out.at_ hy8 (j := 1) rfl; have e2 := HKC.out.at_ hy8 (j := 2) rfl; have e3 := HKC.out.at_ hy8 (j := 3) rfl; have e4 := HKC.out.at_ hy8 (j := 4) rfl; have e5 := HKC.out.at_ hy8 (j := 5) rfl; have e6 := HKC.out.at_ hy8 (j := 6) rfl; clear hq8 hw8 ho8) | (go_simp; go_at_call 56; refine HC8.mono ?_; intro e w9 hp; obtain ⟨hp, hw9⟩ := hp; obtain rfl := hp))
       all_goals
        have HW9 := h_ (hy8.trans (hw9.mono hy8.size))
        have HSS9 := h_ ((HSS.out.trans (hb8.mono HSS.out.size)).trans (hw9.mono (Nat.le_trans HSS.out.size hb8.size)))
        clear hb8 hw9 hy8 hgd HC8 t0 t1 t2 t3 e0 e1 e2 e3 e4 e5 e6 p4
        by_cases hq : R2 = 0
        ·subst hq
         by_cases r3 : R1 = 3
         ·subst r3
          go_wp2_with fail
          go_roundw
          case rel => exact ⟨k + 1, by omega, by go_num, HSS9.out⟩
          case measure => simp [intOf]; omega
         ·have d3 : (R1 != 3) = true := by simp [r3]
          by_cases r0 : R1 = 0
          ·subst r0
           go_wp2_with fail
           go_roundw
           case rel => exact ⟨k + 1, by omega, by go_num, HSS9.out⟩
           case measure => simp [intOf]; omega
          ·have d0 : (R1 != 0) = true := by simp [r0]
           go_wp2_with fail
           go_ret
           exact ⟨7, rfl, fun _ => trivial, HW9.out⟩
        ·have dq : (R2 != 0) = true := by simp [hq]
         go_wp2_with fail
         go_ret
         exact ⟨R2, rfl, fun _ => trivial, HW9.out⟩
      ·obtain rfl : k = Cs.length := by omega
       have d1 : decide ((Cs.length : Int) < (Cs.length : Int)) = false := decide_eq_false (by omega)
       go_wp2_with fail
       go_ret
       exact ⟨0, rfl, fun _ => trivial, HWs.out⟩
theorem check13_call (L : List Col) (Ks : List Int) (Fs : List Fkey) (Cs : List X) (tn : S) (a a2 a3 a4 : Option Addr) (m m2 m3 m4 : Nat) (w : World) (hL : L.length <= 1000000) (hK : Ks.length <= 1099511627776) (hfl : ∀ f ∈ Fs, f.cols.length <= 1099511627776) (hcs : ∀ x ∈ Cs, nodes x <= 1000000 /\ shortX x) (hl : CL w L (.slice a L.length m)) (hi : IL w Ks (.slice a2 Ks.length m2)) (hf : FL w Fs (.slice a3 Fs.length m3)) (hx : XL w Cs (.slice a4 Cs.length m4)) : Calls Tryz.prog 7 #[.agg #[.string ⟨tn.toArray⟩, .slice a L.length m, .slice a2 Ks.length m2, .slice a3 Fs.length m3, .slice a4 Cs.length m4]] w (ErrPost w (Distinct L)) := by
 have HC := h_ fun (w' : World) (hw' : Below w.heap.size w w') => columns13_call L tn a a2 a3 a4 m Ks.length m2 Fs.length m3 Cs.length m4 w' hL (hl.kept hw' (Nat.le_refl _))
 have HK := h_ fun (w' : World) (hw' : Below w.heap.size w w') => key13_call L Ks tn a a2 a3 a4 m m2 Fs.length m3 Cs.length m4 w' hL hK (hl.kept hw' (Nat.le_refl _)) (hi.kept hw' (Nat.le_refl _))
 have HT := h_ fun (w' : World) (hw' : Below w.heap.size w w') => constraints13_call L Fs Cs tn a a2 a3 a4 m Ks.length m2 m3 m4 w' hL hfl hcs (hl.kept hw' (Nat.le_refl _)) (hf.kept hw' (Nat.le_refl _)) (hx.kept hw' (Nat.le_refl _))
 clear hL hK hfl hcs hl hi hf hx
 go_enter Tryz.func7, Tryz.ntmps7
 go_upto_region 1 with (fail)
 refine nA fun w1 hB0 hw1 hz1 => ?_
 have HB1 := h_ hB0
 have HW1 := h_ hw1
 have p0 := hB0.cell 0 rfl
 clear hB0 hw1 hz1
 go_wp2_with fail
 refine (rname_at tn w1).mono ?_
 rintro e w2 ⟨rfl, hw2⟩
 have HB2 := h_ (HB1.out.below hw2)
 have HW2 := t_ HW1 hw2
 clear hw2 HB1 HW1 p0
 cases hnb : nameB tn with
 | false =>
  go_wp2_with fail
  go_ret
  exact ⟨1, rfl, fun h => absurd h (by decide), HW2.out⟩
 | true =>
  have HC2 := h_ (HC.out w2 HW2.out)
  clear hnb
  obtain ⟨p0, p1, p2, p3, p4⟩ := HB2.out.c5
  go_wp2_with fail
  refine HC2.out.mono ?_
  rintro e w3 ⟨q, rfl, hq0, hw3⟩
  have HD := h_ hq0
  have HB3 := h_ (HB2.out.below hw3)
  have HW3 := t_ HW2 hw3
  clear hw3 HB2 HW2 p0 p1 p2 p3 p4 HC2 hq0
  by_cases hq : q = 0
  ·have HDD := h_ (HD.out hq)
   have HK3 := h_ (HK.out w3 HW3.out)
   subst hq
   clear HD
   obtain ⟨p0, p1, p2, p3, p4⟩ := HB3.out.c5
   go_wp2_with fail
   refine HK3.out.mono ?_
   rintro e w4 ⟨q, rfl, _, hw4⟩
   have HB4 := h_ (HB3.out.below hw4)
   have HW4 := t_ HW3 hw4
   clear hw4 HB3 HW3 p0 p1 p2 p3 p4 HK3
   by_cases hq : q = 0
   ·subst hq
    have HT4 := h_ (HT.out w4 HW4.out)
    obtain ⟨p0, p1, p2, p3, p4⟩ := HB4.out.c5
    go_wp2_with fail
    refine HT4.out.mono ?_
    rintro e w5 ⟨q, rfl, _, hw5⟩
    have HW5 := t_ HW4 hw5
    clear hw5 p0 p1 p2 p3 p4
    go_wp2_with fail
    go_ret
    exact ⟨q, rfl, fun _ => HDD.out, HW5.out⟩
   ·have dq : (q == 0) = false := by simp [hq]
    go_wp2_with fail
    go_ret
    exact ⟨q, rfl, fun _ => HDD.out, HW4.out⟩
  ·have dq : (q == 0) = false := by simp [hq]
   have HQ := h_ hq
   go_wp2_with fail
   go_ret
   exact ⟨q, rfl, fun h => absurd h HQ.out, HW3.out⟩
end Go.Proofs.YtnlimlboedohgaaGreatDoor.Px
