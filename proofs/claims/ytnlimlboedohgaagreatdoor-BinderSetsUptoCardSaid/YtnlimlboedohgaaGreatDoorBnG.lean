import Derived.Test.YtnlimlboedohgaaGreatDoorBnE
import Derived.Test.YtnlimlboedohgaaGreatDoorBnC
import Derived.Test.YtnlimlboedohgaaGreatDoorBnB
import Derived.Test.YtnlimlboedohgaaGreatDoorBnA
import Derived.Test.YtnlimlboedohgaaGreatDoorPxR
import Derived.Test.YtnlimlboedohgaaGreatDoorAxSeg
import Derived.Test.YtnlimlboedohgaaGreatDoorProg
import Derived.KernelRfl
import Derived.Test.YtnlimlboedohgaaGreatDoorOrA
import Derived.Test.YtnlimlboedohgaaGreatDoorAwkS0
import Derived.Test.YtnlimlboedohgaaGreatDoorAwkS1
import Derived.Test.YtnlimlboedohgaaGreatDoorAwkS2
import Derived.Test.YtnlimlboedohgaaGreatDoorAwkS3
import Derived.Test.YtnlimlboedohgaaGreatDoorAwkS4
import Derived.Test.YtnlimlboedohgaaGreatDoorBnH
import Derived.Test.YtnlimlboedohgaaGreatDoorPsR
/-
  Whether a column exists; the columns of a valid table: the reference's. (Printed by gen_br13.py.)
-/
set_option maxHeartbeats 16000000
set_option maxRecDepth 100000
namespace Go.Proofs.YtnlimlboedohgaaGreatDoor.Px
open Go Go.RowKit Go.Proofs.YtnlimlboedohgaaGreatDoor.Ps
set_option linter.unusedVariables false
set_option linter.unusedSimpArgs false
/-- some error; none only where P holds -/
def ErrPost (w : World) (P : Prop) (e : Ending) (w' : World) : Prop := ∃ q : Int, e = .returned (.int .i64 q) ∧ (q = 0 → P) ∧ Below w.heap.size w w'
def exB (i : Int) (n : Nat) : Bool := decide (0 ≤ i) && decide (i < (n : Int))
theorem exists13_call (L : List Col) (tn : S) (a a2 a3 a4 : Option Addr) (m n2 m2 n3 m3 n4 m4 : Nat) (i : Int) (w : World) : Calls Tryz.prog 54 #[.agg #[.string ⟨tn.toArray⟩, .slice a L.length m, .slice a2 n2 m2, .slice a3 n3 m3, .slice a4 n4 m4], .int .i64 i] w (Ret w (.bool (exB i L.length))) := by
 by_cases h0 : 0 ≤ i
 ·by_cases h1 : i < (L.length : Int)
  ·have HF : Hid (exB i L.length = true) := Lib.hid (by unfold exB; simp [h0, h1])
   go_enter Tryz.func54, Tryz.ntmps54
   go_upto_region 1 with (fail)
   refine name_alloc (K := Code.wp _ _ _ _) fun w1 hB hw1 hz1 => ?_
   have HW := Lib.hid hw1
   have p1 := hB.cell 1 rfl
   clear hB hw1 hz1
   go_wp2_with fail
   go_ret
   exact ⟨by rw [HF.out]; rfl, HW.out⟩
  ·have HF : Hid (exB i L.length = false) := Lib.hid (by unfold exB; simp [h1])
   go_enter Tryz.func54, Tryz.ntmps54
   go_upto_region 1 with (fail)
   refine name_alloc (K := Code.wp _ _ _ _) fun w1 hB hw1 hz1 => ?_
   have HW := Lib.hid hw1
   have p1 := hB.cell 1 rfl
   clear hB hw1 hz1
   go_wp2_with fail
   go_ret
   exact ⟨by rw [HF.out]; rfl, HW.out⟩
 ·have HF : Hid (exB i L.length = false) := Lib.hid (by unfold exB; simp [h0])
  go_enter Tryz.func54, Tryz.ntmps54
  go_upto_region 1 with (fail)
  refine name_alloc (K := Code.wp _ _ _ _) fun w1 hB hw1 hz1 => ?_
  have HW := Lib.hid hw1
  have p1 := hB.cell 1 rfl
  clear hB hw1 hz1
  go_wp2_with fail
  go_ret
  exact ⟨by rw [HF.out]; rfl, HW.out⟩
theorem distinct_of {L : List Col} (h : ∀ i (hi : i < L.length), (i : Int) ≤ findV L L[i].nm) : Distinct L := by
 have key : ∀ i j (hi : i < L.length) (hj : j < L.length), L[i].nm = L[j].nm → ¬ i < j := fun i j hi hj e hlt => by
  have h1 := h j hj
  rcases findV_cases L L[j].nm with ⟨_, h2⟩ | ⟨k, hk, h2, h3⟩
  ·exact h2 j hj rfl
  ·rw [h2] at h1
   -- the first index with that name is at most i
   have h4 : k ≤ i := by
    have : ∀ (l : List S) (s : S) (b k : Nat), findN s l b = some k → ∀ i (hi : i < l.length), l[i] = s → k ≤ b + i := by
     intro l
     induction l with
     | nil => intro s b k h; cases h
     | cons x l ih =>
      intro s b k h i hi e
      unfold findN at h
      split at h
      ·cases h; omega
      ·rename_i hne
       cases i with
       | zero => exact absurd e hne
       | succ i => have := ih s (b + 1) k h i (by simpa using hi) (by simpa using e); omega
    have hf : findN L[j].nm (L.map (·.nm)) 0 = some k := by
     unfold findV at h2
     cases hh : findN L[j].nm (L.map (·.nm)) 0 with
     | none => rw [hh] at h2; simp only at h2; omega
     | some k2 => rw [hh] at h2; simp only at h2; congr 1; omega
    have := this _ _ _ _ hf i (by simpa using hi) (by simpa using e)
    omega
   omega
 intro i j hi hj e
 have h1 := key i j hi hj e
 have h2 := key j i hj hi e.symm
 omega
theorem columns13_call (L : List Col) (tn : S) (a a2 a3 a4 : Option Addr) (m n2 m2 n3 m3 n4 m4 : Nat) (w : World) (hn : L.length ≤ 1000000) (hl : CL w L (.slice a L.length m)) : Calls Tryz.prog 25 #[.agg #[.string ⟨tn.toArray⟩, .slice a L.length m, .slice a2 n2 m2, .slice a3 n3 m3, .slice a4 n4 m4]] w (ErrPost w (Distinct L)) := by
 have HL := Lib.hid hl
 clear hl
 go_enter Tryz.func25, Tryz.ntmps25
 go_upto_region 1 with (fail)
 refine name_alloc (K := Code.wp _ _ _ _) fun w1 hB0 hw1 hz1 => ?_
 have HB0 := Lib.hid hB0
 have HW1 := Lib.hid hw1
 have p1 := hB0.cell 1 rfl
 clear hB0 hw1 hz1
 by_cases h1 : (L.length : Int) < 1
 ·go_wp2_with fail
  go_ret
  exact ⟨13, rfl, fun h => absurd h (by decide), HW1.out⟩
 ·by_cases h12 : (12 : Int) < (L.length : Int)
  ·go_wp2_with fail
   go_ret
   exact ⟨13, rfl, fun h => absurd h (by decide), HW1.out⟩
  ·go_upto_region 4 with (fail)
   go_loopw [3] (fun i wr => ∃ k : Nat, k ≤ L.length ∧ i = .int .i64 (k : Int) ∧ Hid (∀ j (hj : j < L.length), j < k → (j : Int) ≤ findV L L[j].nm) ∧ Below w1.heap.size w1 wr) (fun i _ => L.length - (intOf i).toNat)
   case atStart => exact ⟨0, Nat.zero_le _, rfl, Lib.hid (fun j hj h => absurd h (by omega)), Below.refl _ _⟩
   case round =>
    obtain ⟨k, hk, rfl, HR, hb⟩ := hrel
    have HBr := Lib.hid (HB0.out.below hb)
    have HBB := Lib.hid hb
    have HWr := Lib.hid (HW1.out.trans (hb.mono HW1.out.size))
    clear hb p1
    have p1 := HBr.out.cell 1 rfl
    by_cases hlt : k < L.length
    ·have k1 : (k : Int) < (L.length : Int) := by omega
     have k0 : (0 : Int) ≤ (k : Int) := by omega
     obtain ⟨g, o, eq, hx, hec⟩ := HL.out.at_ hlt
     subst eq
     have c0 := hec.at0 HWr.out rfl
     have c1 := hec.at_ HWr.out (j := 1) rfl
     have c2 := hec.at_ HWr.out (j := 2) rfl
     have HST : Hid ((k : Int) ≤ findV L L[k].nm → ∀ j (hj : j < L.length), j < k + 1 → (j : Int) ≤ findV L L[j].nm) := Lib.hid fun h j hj hjk => by
      by_cases e : j = k
      ·subst e; exact h
      ·exact HR.out j hj (by omega)
     clear hec
     generalize L[k].nm = nm at c0 HST
     generalize L[k].kind = kd at c1
     generalize L[k].nul = nl at c2
     go_upto_region 7 with (fail)
     refine name_alloc (K := Code.wp _ _ _ _) fun w3 hB3 hw3 hsz3 => ?_
     have HB3 := Lib.hid hB3
     have HC0 := Lib.hid (HBr.out.below hw3)
     have HW3 := Lib.hid (HWr.out.trans (hw3.mono HWr.out.size))
     have HBB3 := Lib.hid (HBB.out.trans (hw3.mono HBB.out.size))
     clear hB3 hw3 hsz3 c0 c1 c2 p1 HBr HWr HBB
     have z0 := HB3.out.cell 0 rfl
     go_wp2_with fail
     refine (rname_at nm w3).mono ?_
     rintro e w4 ⟨rfl, hw4⟩
     have HD0 := Lib.hid (HC0.out.below hw4)
     have HD3 := Lib.hid (HB3.out.below hw4)
     have HW4 := Lib.hid (HW3.out.trans (hw4.mono HW3.out.size))
     have HBB4 := Lib.hid (HBB3.out.trans (hw4.mono HBB3.out.size))
     clear hw4 z0 HB3 HC0 HW3 HBB3
     cases hnb : nameB nm with
     | false =>
      go_wp2_with fail
      go_ret
      exact ⟨1, rfl, fun h => absurd h (by decide), HW4.out⟩
     | true =>
      have z1 := HD3.out.cell 1 rfl
      by_cases g1 : kd < 1
      ·go_wp2_with fail
       go_ret
       exact ⟨7, rfl, fun h => absurd h (by decide), HW4.out⟩
      ·by_cases g3 : 3 < kd
       ·go_wp2_with fail
        go_ret
        exact ⟨7, rfl, fun h => absurd h (by decide), HW4.out⟩
       ·have z0 := HD3.out.cell 0 rfl
        have t0 := HD0.out.cell 0 rfl
        have t1 := HD0.out.cell 1 rfl
        have t2 := HD0.out.cell 2 rfl
        have t3 := HD0.out.cell 3 rfl
        have t4 := HD0.out.cell 4 rfl
        go_wp2_with fail
        refine (find13_call L nm tn _ m _ _ _ w4 (by omega) (HL.out.kept HW4.out (Nat.le_refl _))).mono ?_
        rintro e w5 ⟨rfl, hw5⟩
        have HW5 := Lib.hid (HW4.out.trans (hw5.mono HW4.out.size))
        have HBB5 := Lib.hid (HBB4.out.trans (hw5.mono HBB4.out.size))
        clear hw5 z0 z1 t0 t1 t2 t3 t4 HD0 HD3 HW4 HBB4
        generalize findV L nm = V at HST ⊢
        by_cases hv : V < (k : Int)
        ·go_wp2_with fail
         go_ret
         exact ⟨10, rfl, fun h => absurd h (by decide), HW5.out⟩
        ·have HN := Lib.hid (HST.out (by omega))
         go_wp2_with fail
         go_roundw
         case rel => exact ⟨k + 1, by omega, by go_num, HN, HBB5.out⟩
         case measure => simp [intOf]; omega
    ·obtain rfl : k = L.length := by omega
     have d1 : decide ((L.length : Int) < (L.length : Int)) = false := decide_eq_false (by omega)
     have HD := Lib.hid (distinct_of fun j hj => HR.out j hj hj)
     go_wp2_with fail
     go_ret
     exact ⟨0, rfl, fun _ => HD.out, HWr.out⟩
end Go.Proofs.YtnlimlboedohgaaGreatDoor.Px

/-
  The key of a table: the reference's. (Printed by gen_brkey.py.)
-/
namespace Go.Proofs.YtnlimlboedohgaaGreatDoor.Px
open Go Go.RowKit Go.Proofs.YtnlimlboedohgaaGreatDoor.Ps
set_option linter.unusedVariables false
set_option linter.unusedSimpArgs false
theorem key13_call (L : List Col) (K : List Int) (tn : S) (a a2 a3 a4 : Option Addr) (m m2 n3 m3 n4 m4 : Nat) (w : World) (hn : L.length ≤ 1000000) (hk : K.length ≤ 1099511627776) (hl : CL w L (.slice a L.length m)) (hi : IL w K (.slice a2 K.length m2)) : Calls Tryz.prog 26 #[.agg #[.string ⟨tn.toArray⟩, .slice a L.length m, .slice a2 K.length m2, .slice a3 n3 m3, .slice a4 n4 m4]] w (ErrPost w True) := by
 have HL := Lib.hid hl
 have HI := Lib.hid hi
 clear hl hi
 go_enter Tryz.func26, Tryz.ntmps26
 go_upto_region 1 with (fail)
 refine name_alloc (K := Code.wp _ _ _ _) fun w1 hB0 hw1 hz1 => ?_
 have HB0 := Lib.hid hB0
 have HW1 := Lib.hid hw1
 have p2 := hB0.cell 2 rfl
 clear hB0 hw1 hz1
 by_cases h0 : K.length = 0
 ·have d0 : ((K.length : Int) == 0) = true := by simp [h0]
  have d0' : (K.length == 0) = true := by simp [h0]
  have d0'' : K.isEmpty = true := by cases K; rfl; simp at h0
  go_wp2_with fail
  go_ret
  exact ⟨25, rfl, fun _ => trivial, HW1.out⟩
 ·have d0 : ((K.length : Int) == 0) = false := by rw [beq_eq_false_iff_ne]; omega
  have d0' : (K.length == 0) = false := by rw [beq_eq_false_iff_ne]; omega
  have d0'' : K.isEmpty = false := by cases K; exact absurd rfl h0; rfl
  go_upto_region 4 with (fail)
  go_loopw [3] (fun i wr => ∃ k : Nat, k ≤ K.length ∧ i = .int .i64 (k : Int) ∧ Below w1.heap.size w1 wr) (fun i _ => K.length - (intOf i).toNat)
  case atStart => exact ⟨0, Nat.zero_le _, rfl, Below.refl _ _⟩
  case round =>
   obtain ⟨k, hkk, rfl, hb⟩ := hrel
   have HBr := Lib.hid (HB0.out.below hb)
   have HBB := Lib.hid hb
   have HWr := Lib.hid (HW1.out.trans (hb.mono HW1.out.size))
   clear hb p2
   have p2 := HBr.out.cell 2 rfl
   by_cases hlt : k < K.length
   ·have k1 : (k : Int) < (K.length : Int) := by omega
    have k0 : (0 : Int) ≤ (k : Int) := by omega
    obtain ⟨gk, ok, eq, hx, hec⟩ := HI.out.at_ hlt
    subst eq
    have HKC : Hid (EC w gk (ok + k) [.int .i64 K[k]]) := Lib.hid (by simpa using hec)
    clear hec
    go_upto_region 6 with (fail)
    by_cases hex : exB K[k] L.length = true
    ·have HCN0 : Hid (∃ g o nl nm kd, a = some ⟨g, o, none⟩ ∧ EC w g (o + K[k].toNat * 3) [.string nm, .int .i64 kd, .bool nl] ∧ 0 ≤ K[k] ∧ K[k] < (L.length : Int)) := Lib.hid (by
      unfold exB at hex
      simp only [Bool.and_eq_true, decide_eq_true_eq] at hex
      obtain ⟨g, o, e, hx2, h2⟩ := HL.out.at_ (k := K[k].toNat) (by omega)
      exact ⟨g, o, _, _, _, e, h2, hex⟩)
     have HEX := Lib.hid hex
     have HKD : Hid (0 < k → ∃ kv2, EC w gk (ok + (k - 1)) [.int .i64 kv2]) := Lib.hid fun h => by
      obtain ⟨g2, o2, e2, hx2, hec2⟩ := HI.out.at_ (k := k - 1) (by omega)
      cases e2
      exact ⟨_, by simpa using hec2⟩
     clear hex p2
     generalize K[k] = kv at HKC HEX HCN0
     obtain ⟨g, o, nl, nm, kd, ea, hcn, v0, v1⟩ := HCN0.out
     have HCN := Lib.hid hcn
     clear hcn HCN0
     subst ea
     have HEC : Hid (∀ w', Calls Tryz.prog 54 #[.agg #[.string ⟨tn.toArray⟩, .slice (some ⟨g, o, none⟩) L.length m, .slice (some ⟨gk, ok, none⟩) K.length m2, .slice a3 n3 m3, .slice a4 n4 m4], .int .i64 kv] w' (Ret w' (.bool true))) := Lib.hid fun w' => by
      have h9 := exists13_call L tn (some ⟨g, o, none⟩) (some ⟨gk, ok, none⟩) a3 a4 m K.length m2 n3 m3 n4 m4 kv w'
      rw [HEX.out] at h9
      exact h9
     by_cases hz : k = 0
     ·have HZ := Lib.hid hz
      clear HKD hz
      refine Gr.region_grow 25 (by kernel_rfl) (by kernel_rfl) (fun w' => Below wr.heap.size wr w') ⟨rfl, rfl, rfl, Nat.le_refl _, fun _ _ => rfl⟩ ?_
      simp only [List.take_succ_cons, List.take_zero, List.drop_succ_cons, List.drop_zero]
      refine Gr.line_step _ (by go_simp; intro w' hw'; have t0 := (HBr.out.below hw').cell 0 rfl; have t1 := (HBr.out.below hw').cell 1 rfl; have t2 := (HBr.out.below hw').cell 2 rfl; have t3 := (HBr.out.below hw').cell 3 rfl; have t4 := (HBr.out.below hw').cell 4 rfl; go_simp; rw [Gr.grown_value]) ?_
      refine Gr.line_norm fun K hK => ?_; go_simp; refine hK _ ?_; clear hK K
      refine Gr.line_step _ (by go_simp; intro w' hw'; go_simp; rw [Gr.grown_value]) ?_
      refine Gr.line_norm fun K hK => ?_; go_simp; refine hK _ ?_; clear hK K
      refine Gr.line_step _ (by go_simp; intro w' hw'; have t2 := (HBr.out.below hw').cell 2 rfl; go_simp; rw [Gr.grown_value]) ?_
      iterate 2
       refine Gr.line_norm fun K hK => ?_; go_simp; refine hK _ ?_; clear hK K
       refine Gr.line_step _ (by go_simp; intro w' hw'; go_simp; rw [Gr.grown_value]) ?_
      refine Gr.line_norm fun K hK => ?_; go_simp; refine hK _ ?_; clear hK K
      refine Gr.line_step _ (by go_simp; intro w' hw'; have e0 := HKC.out.at0 (HWr.out.trans (hw'.mono HWr.out.size)) rfl; go_simp; rw [Gr.grown_value]) ?_
      refine Gr.line_norm fun K hK => ?_; go_simp; refine hK _ ?_; clear hK K
      refine Gr.line_step (.bool true) (by go_simp; intro w' hw'; go_simp; rw [Gr.grown_enter]; exact Ret.fam (HEC.out w') hw') ?_
      iterate 3
       refine Gr.line_norm fun K hK => ?_; go_simp; refine hK _ ?_; clear hK K
       refine Gr.line_step _ (by go_simp; intro w' hw'; go_simp; rw [Gr.grown_value]) ?_
      refine Gr.line_norm fun K hK => ?_; go_simp; refine hK _ ?_; clear hK K
      refine Gr.line_step (.bool false) (by go_simp; intro w' hw'; have kz : decide (0 < k) = false := decide_eq_false (by have := HZ.out; omega); go_simp; rw [Gr.grown_value]) ?_
      refine Gr.line_norm fun K hK => ?_; go_simp; refine hK _ ?_; clear hK K
      refine Gr.line_step (.bool false) (by go_simp; intro w' hw'; go_simp; rw [Gr.grown_value]) ?_
      iterate 12
       refine Gr.line_norm fun K hK => ?_; go_simp; refine hK _ ?_; clear hK K
       refine Gr.line_step undef (by go_simp; try (intro hz; cases hz)) ?_
      refine Gr.line_norm fun K hK => ?_; go_simp; refine hK _ ?_; clear hK K
      refine Gr.line_step (.bool false) (by go_simp; intro w' hw'; go_simp; rw [Gr.grown_value]) ?_
      refine Gr.line_norm fun K hK => ?_; go_simp; refine hK _ ?_; clear hK K
      refine Gr.line_nil fun w4 hw4 => ?_
      have HD0 := Lib.hid (HBr.out.below hw4)
      have HW4 := Lib.hid (HWr.out.trans (hw4.mono HWr.out.size))
      have HBB4 := Lib.hid (HBB.out.trans (hw4.mono HBB.out.size))
      clear hw4
      go_upto_region 8 with (fail)
      refine Gr.region_grow 9 (by kernel_rfl) (by kernel_rfl) (fun w' => Below w4.heap.size w4 w') ⟨rfl, rfl, rfl, Nat.le_refl _, fun _ _ => rfl⟩ ?_
      simp only [List.take_succ_cons, List.take_zero, List.drop_succ_cons, List.drop_zero]
      refine Gr.line_step _ (by go_simp; intro w' hw'; go_simp; rw [Gr.grown_value]) ?_
      refine Gr.line_norm fun K hK => ?_; go_simp; refine hK _ ?_; clear hK K
      refine Gr.line_step _ (by go_simp; intro w' hw'; have t1 := (HD0.out.below hw').cell 1 rfl; go_simp; rw [Gr.grown_value]) ?_
      refine Gr.line_norm fun K hK => ?_; go_simp; refine hK _ ?_; clear hK K
      refine Gr.line_step _ (by go_simp; intro w' hw'; go_simp; rw [Gr.grown_value]) ?_
      refine Gr.line_norm fun K hK => ?_; go_simp; refine hK _ ?_; clear hK K
      refine Gr.line_step _ (by go_simp; intro w' hw'; have t2 := (HD0.out.below hw').cell 2 rfl; go_simp; rw [Gr.grown_value]) ?_
      iterate 2
       refine Gr.line_norm fun K hK => ?_; go_simp; refine hK _ ?_; clear hK K
       refine Gr.line_step _ (by go_simp; intro w' hw'; go_simp; rw [Gr.grown_value]) ?_
      refine Gr.line_norm fun K hK => ?_; go_simp; refine hK _ ?_; clear hK K
      refine Gr.line_step _ (by go_simp; intro w' hw'; have e0 := HKC.out.at0 (HW4.out.trans (hw'.mono HW4.out.size)) rfl; go_simp; rw [Gr.grown_value]) ?_
      iterate 2
       refine Gr.line_norm fun K hK => ?_; go_simp; refine hK _ ?_; clear hK K
       refine Gr.line_step _ (by go_simp; intro w' hw'; go_simp; rw [Gr.grown_value]) ?_
      refine Gr.line_norm fun K hK => ?_; go_simp; refine hK _ ?_; clear hK K
      refine Gr.line_nil fun w5 hw5 => ?_
      have c2 := HCN.out.at_ (HW4.out.trans (hw5.mono HW4.out.size)) (j := 2) rfl
      have HBB5 := Lib.hid (HBB4.out.trans (hw5.mono HBB4.out.size))
      have HW5 := Lib.hid (HW4.out.trans (hw5.mono HW4.out.size))
      clear hw5
      cases nl with
      | true =>
       go_wp2_with fail
       go_ret
       exact ⟨12, rfl, fun _ => trivial, HW5.out⟩
      | false =>
       go_wp2_with fail
       go_roundw
       case rel => exact ⟨k + 1, by omega, by go_num, HBB5.out⟩
       case measure => simp [intOf]; omega
     ·obtain ⟨kv2, hkd⟩ := HKD.out (by omega)
      have HKD : Hid (EC w gk (ok + (k - 1)) [.int .i64 kv2]) := Lib.hid hkd
      have kp : 0 < k := by omega
      clear hkd
      refine Gr.region_grow 25 (by kernel_rfl) (by kernel_rfl) (fun w' => Below wr.heap.size wr w') ⟨rfl, rfl, rfl, Nat.le_refl _, fun _ _ => rfl⟩ ?_
      simp only [List.take_succ_cons, List.take_zero, List.drop_succ_cons, List.drop_zero]
      refine Gr.line_step _ (by go_simp; intro w' hw'; have t0 := (HBr.out.below hw').cell 0 rfl; have t1 := (HBr.out.below hw').cell 1 rfl; have t2 := (HBr.out.below hw').cell 2 rfl; have t3 := (HBr.out.below hw').cell 3 rfl; have t4 := (HBr.out.below hw').cell 4 rfl; go_simp; rw [Gr.grown_value]) ?_
      refine Gr.line_norm fun K hK => ?_; go_simp; refine hK _ ?_; clear hK K
      refine Gr.line_step _ (by go_simp; intro w' hw'; go_simp; rw [Gr.grown_value]) ?_
      refine Gr.line_norm fun K hK => ?_; go_simp; refine hK _ ?_; clear hK K
      refine Gr.line_step _ (by go_simp; intro w' hw'; have t2 := (HBr.out.below hw').cell 2 rfl; go_simp; rw [Gr.grown_value]) ?_
      iterate 2
       refine Gr.line_norm fun K hK => ?_; go_simp; refine hK _ ?_; clear hK K
       refine Gr.line_step _ (by go_simp; intro w' hw'; go_simp; rw [Gr.grown_value]) ?_
      refine Gr.line_norm fun K hK => ?_; go_simp; refine hK _ ?_; clear hK K
      refine Gr.line_step _ (by go_simp; intro w' hw'; have e0 := HKC.out.at0 (HWr.out.trans (hw'.mono HWr.out.size)) rfl; go_simp; rw [Gr.grown_value]) ?_
      refine Gr.line_norm fun K hK => ?_; go_simp; refine hK _ ?_; clear hK K
      refine Gr.line_step (.bool true) (by go_simp; intro w' hw'; go_simp; rw [Gr.grown_enter]; exact Ret.fam (HEC.out w') hw') ?_
      iterate 6
       refine Gr.line_norm fun K hK => ?_; go_simp; refine hK _ ?_; clear hK K
       refine Gr.line_step _ (by go_simp; intro w' hw'; go_simp; rw [Gr.grown_value]) ?_
      refine Gr.line_norm fun K hK => ?_; go_simp; refine hK _ ?_; clear hK K
      refine Gr.line_step _ (by go_simp; intro w' hw'; have t2 := (HBr.out.below hw').cell 2 rfl; go_simp; rw [Gr.grown_value]) ?_
      iterate 2
       refine Gr.line_norm fun K hK => ?_; go_simp; refine hK _ ?_; clear hK K
       refine Gr.line_step _ (by go_simp; intro w' hw'; go_simp; rw [Gr.grown_value]) ?_
      refine Gr.line_norm fun K hK => ?_; go_simp; refine hK _ ?_; clear hK K
      refine Gr.line_step _ (by go_simp; intro w' hw'; have e0 := HKC.out.at0 (HWr.out.trans (hw'.mono HWr.out.size)) rfl; go_simp; rw [Gr.grown_value]) ?_
      refine Gr.line_norm fun K hK => ?_; go_simp; refine hK _ ?_; clear hK K
      refine Gr.line_step _ (by go_simp; intro w' hw'; go_simp; rw [Gr.grown_value]) ?_
      refine Gr.line_norm fun K hK => ?_; go_simp; refine hK _ ?_; clear hK K
      refine Gr.line_step _ (by go_simp; intro w' hw'; have t2 := (HBr.out.below hw').cell 2 rfl; go_simp; rw [Gr.grown_value]) ?_
      refine Gr.line_norm fun K hK => ?_; go_simp; refine hK _ ?_; clear hK K
      refine Gr.line_step _ (by go_simp; intro w' hw'; go_simp; rw [Gr.grown_value]) ?_
      refine Gr.line_norm fun K hK => ?_; go_simp; refine hK _ ?_; clear hK K
      refine Gr.line_step (.int .i64 ((k : Int) - 1)) (by go_simp; intro w' hw'; have kw : IntKind.i64.wrap ((k : Int) - 1) = (k : Int) - 1 := Go.IntWalk.i64_in _ (by omega); go_simp; rw [Gr.grown_value]) ?_
      refine Gr.line_norm fun K hK => ?_; go_simp; refine hK _ ?_; clear hK K
      refine Gr.line_step (.pointer (some ⟨gk, ok + (k - 1), none⟩)) (by go_simp; intro w' hw'; have kn : ((k : Int) - 1).toNat = k - 1 := (by omega); have ka : 0 ≤ (k : Int) - 1 := (by omega); have kc : 1 ≤ (k : Int) := (by omega); have kb : (k : Int) - 1 < (K.length : Int) := (by omega); go_simp; rw [Gr.grown_value]) ?_
      refine Gr.line_norm fun K hK => ?_; go_simp; refine hK _ ?_; clear hK K
      refine Gr.line_step _ (by go_simp; intro w' hw'; have e1 := HKD.out.at0 (HWr.out.trans (hw'.mono HWr.out.size)) rfl; go_simp; rw [Gr.grown_value]) ?_
      iterate 2
       refine Gr.line_norm fun K hK => ?_; go_simp; refine hK _ ?_; clear hK K
       refine Gr.line_step _ (by go_simp; intro w' hw'; go_simp; rw [Gr.grown_value]) ?_
      refine Gr.line_norm fun K hK => ?_; go_simp; refine hK _ ?_; clear hK K
      refine Gr.line_nil fun w4 hw4 => ?_
      have HD0 := Lib.hid (HBr.out.below hw4)
      have HW4 := Lib.hid (HWr.out.trans (hw4.mono HWr.out.size))
      have HBB4 := Lib.hid (HBB.out.trans (hw4.mono HBB.out.size))
      clear hw4
      by_cases hle : kv ≤ kv2
      ·go_wp2_with fail
       go_ret
       exact ⟨25, rfl, fun _ => trivial, HW4.out⟩
      ·have hle2 : kv2 < kv := by omega
       clear hle
       go_upto_region 8 with (fail)
       refine Gr.region_grow 9 (by kernel_rfl) (by kernel_rfl) (fun w' => Below w4.heap.size w4 w') ⟨rfl, rfl, rfl, Nat.le_refl _, fun _ _ => rfl⟩ ?_
       simp only [List.take_succ_cons, List.take_zero, List.drop_succ_cons, List.drop_zero]
       refine Gr.line_step _ (by go_simp; intro w' hw'; go_simp; rw [Gr.grown_value]) ?_
       refine Gr.line_norm fun K hK => ?_; go_simp; refine hK _ ?_; clear hK K
       refine Gr.line_step _ (by go_simp; intro w' hw'; have t1 := (HD0.out.below hw').cell 1 rfl; go_simp; rw [Gr.grown_value]) ?_
       refine Gr.line_norm fun K hK => ?_; go_simp; refine hK _ ?_; clear hK K
       refine Gr.line_step _ (by go_simp; intro w' hw'; go_simp; rw [Gr.grown_value]) ?_
       refine Gr.line_norm fun K hK => ?_; go_simp; refine hK _ ?_; clear hK K
       refine Gr.line_step _ (by go_simp; intro w' hw'; have t2 := (HD0.out.below hw').cell 2 rfl; go_simp; rw [Gr.grown_value]) ?_
       iterate 2
        refine Gr.line_norm fun K hK => ?_; go_simp; refine hK _ ?_; clear hK K
        refine Gr.line_step _ (by go_simp; intro w' hw'; go_simp; rw [Gr.grown_value]) ?_
       refine Gr.line_norm fun K hK => ?_; go_simp; refine hK _ ?_; clear hK K
       refine Gr.line_step _ (by go_simp; intro w' hw'; have e0 := HKC.out.at0 (HW4.out.trans (hw'.mono HW4.out.size)) rfl; go_simp; rw [Gr.grown_value]) ?_
       iterate 2
        refine Gr.line_norm fun K hK => ?_; go_simp; refine hK _ ?_; clear hK K
        refine Gr.line_step _ (by go_simp; intro w' hw'; go_simp; rw [Gr.grown_value]) ?_
       refine Gr.line_norm fun K hK => ?_; go_simp; refine hK _ ?_; clear hK K
       refine Gr.line_nil fun w5 hw5 => ?_
       have c2 := HCN.out.at_ (HW4.out.trans (hw5.mono HW4.out.size)) (j := 2) rfl
       have HBB5 := Lib.hid (HBB4.out.trans (hw5.mono HBB4.out.size))
       have HW5 := Lib.hid (HW4.out.trans (hw5.mono HW4.out.size))
       clear hw5
       cases nl with
       | true =>
        go_wp2_with fail
        go_ret
        exact ⟨12, rfl, fun _ => trivial, HW5.out⟩
       | false =>
        go_wp2_with fail
        go_roundw
        case rel => exact ⟨k + 1, by omega, by go_num, HBB5.out⟩
        case measure => simp [intOf]; omega
    ·have HEX : Hid (exB K[k] L.length = false) := Lib.hid (by simpa using hex)
     clear hex p2
     generalize K[k] = kv at HKC HEX
     have HEC : Hid (∀ w', Calls Tryz.prog 54 #[.agg #[.string ⟨tn.toArray⟩, .slice a L.length m, .slice (some ⟨gk, ok, none⟩) K.length m2, .slice a3 n3 m3, .slice a4 n4 m4], .int .i64 kv] w' (Ret w' (.bool false))) := Lib.hid fun w' => by
      have h9 := exists13_call L tn a (some ⟨gk, ok, none⟩) a3 a4 m K.length m2 n3 m3 n4 m4 kv w'
      rw [HEX.out] at h9
      exact h9
     refine Gr.region_grow 25 (by kernel_rfl) (by kernel_rfl) (fun w' => Below wr.heap.size wr w') ⟨rfl, rfl, rfl, Nat.le_refl _, fun _ _ => rfl⟩ ?_
     simp only [List.take_succ_cons, List.take_zero, List.drop_succ_cons, List.drop_zero]
     refine Gr.line_step _ (by go_simp; intro w' hw'; have t0 := (HBr.out.below hw').cell 0 rfl; have t1 := (HBr.out.below hw').cell 1 rfl; have t2 := (HBr.out.below hw').cell 2 rfl; have t3 := (HBr.out.below hw').cell 3 rfl; have t4 := (HBr.out.below hw').cell 4 rfl; go_simp; rw [Gr.grown_value]) ?_
     refine Gr.line_norm fun K hK => ?_; go_simp; refine hK _ ?_; clear hK K
     refine Gr.line_step _ (by go_simp; intro w' hw'; go_simp; rw [Gr.grown_value]) ?_
     refine Gr.line_norm fun K hK => ?_; go_simp; refine hK _ ?_; clear hK K
     refine Gr.line_step _ (by go_simp; intro w' hw'; have t2 := (HBr.out.below hw').cell 2 rfl; go_simp; rw [Gr.grown_value]) ?_
     iterate 2
      refine Gr.line_norm fun K hK => ?_; go_simp; refine hK _ ?_; clear hK K
      refine Gr.line_step _ (by go_simp; intro w' hw'; go_simp; rw [Gr.grown_value]) ?_
     refine Gr.line_norm fun K hK => ?_; go_simp; refine hK _ ?_; clear hK K
     refine Gr.line_step _ (by go_simp; intro w' hw'; have e0 := HKC.out.at0 (HWr.out.trans (hw'.mono HWr.out.size)) rfl; go_simp; rw [Gr.grown_value]) ?_
     refine Gr.line_norm fun K hK => ?_; go_simp; refine hK _ ?_; clear hK K
     refine Gr.line_step (.bool false) (by go_simp; intro w' hw'; go_simp; rw [Gr.grown_enter]; exact Ret.fam (HEC.out w') hw') ?_
     iterate 2
      refine Gr.line_norm fun K hK => ?_; go_simp; refine hK _ ?_; clear hK K
      refine Gr.line_step _ (by go_simp; intro w' hw'; go_simp; rw [Gr.grown_value]) ?_
     iterate 16
      refine Gr.line_norm fun K hK => ?_; go_simp; refine hK _ ?_; clear hK K
      refine Gr.line_step undef (by go_simp; try (intro hz; cases hz)) ?_
     refine Gr.line_norm fun K hK => ?_; go_simp; refine hK _ ?_; clear hK K
     refine Gr.line_nil fun w4 hw4 => ?_
     have HD0 := Lib.hid (HBr.out.below hw4)
     have HW4 := Lib.hid (HWr.out.trans (hw4.mono HWr.out.size))
     have HBB4 := Lib.hid (HBB.out.trans (hw4.mono HBB.out.size))
     clear hw4
     go_wp2_with fail
     go_ret
     exact ⟨25, rfl, fun _ => trivial, HW4.out⟩
   ·obtain rfl : k = K.length := by omega
    have d1 : decide ((K.length : Int) < (K.length : Int)) = false := decide_eq_false (by omega)
    go_wp2_with fail
    go_ret
    exact ⟨0, rfl, fun _ => trivial, HWr.out⟩
end Go.Proofs.YtnlimlboedohgaaGreatDoor.Px

/-
  A foreign key of a table: the reference's. (Printed by gen_brfor.py.)
-/
namespace Go.Proofs.YtnlimlboedohgaaGreatDoor.Px
open Go Go.RowKit Go.Proofs.YtnlimlboedohgaaGreatDoor.Ps
set_option linter.unusedVariables false
set_option linter.unusedSimpArgs false
theorem foreign13_call (L : List Col) (F : List Int) (tn tb : S) (a a2 a3 a4 fa : Option Addr) (m n2 m2 n3 m3 n4 m4 fm : Nat) (w : World) (hk : F.length ≤ 1099511627776) (hi : IL w F (.slice fa F.length fm)) : Calls Tryz.prog 55 #[.agg #[.string ⟨tn.toArray⟩, .slice a L.length m, .slice a2 n2 m2, .slice a3 n3 m3, .slice a4 n4 m4], .agg #[.slice fa F.length fm, .string ⟨tb.toArray⟩]] w (ErrPost w True) := by
 have HI := Lib.hid hi
 clear hi
 go_enter Tryz.func55, Tryz.ntmps55
 go_upto_region 1 with (fail)
 refine name_alloc2 (K := Code.wp _ _ _ _) fun w1 hA0 hB0 hw1 hz1 => ?_
 have HA1 := Lib.hid hA0
 have HB1 := Lib.hid hB0
 have HW1 := Lib.hid hw1
 have u1 := hB0.cell 1 rfl
 clear hA0 hB0 hw1 hz1
 go_wp2_with fail
 refine (rname_at tb w1).mono ?_
 rintro e w2 ⟨rfl, hw2⟩
 have HA2 := Lib.hid (HA1.out.below hw2)
 have HB2 := Lib.hid (HB1.out.below hw2)
 have HW2 := Lib.hid (HW1.out.trans (hw2.mono HW1.out.size))
 clear hw2 HA1 HB1 HW1 u1
 cases hnb : nameB tb with
 | false =>
  go_wp2_with fail
  go_ret
  exact ⟨1, rfl, fun _ => trivial, HW2.out⟩
 | true =>
  clear hnb
  have u0 := HB2.out.cell 0 rfl
  by_cases h0 : F.length = 0
  ·have d0 : ((F.length : Int) == 0) = true := by simp [h0]
   have d0' : (F.length == 0) = true := by simp [h0]
   have d0'' : F.isEmpty = true := by cases F; rfl; simp at h0
   go_wp2_with fail
   go_ret
   exact ⟨25, rfl, fun _ => trivial, HW2.out⟩
  ·have d0 : ((F.length : Int) == 0) = false := by rw [beq_eq_false_iff_ne]; omega
   have d0' : (F.length == 0) = false := by rw [beq_eq_false_iff_ne]; omega
   have d0'' : F.isEmpty = false := by cases F; exact absurd rfl h0; rfl
   go_upto_region 6 with (fail)
   go_loopw [5, 6] (fun i _ wr => ∃ k : Nat, k ≤ F.length ∧ i = .int .i64 (k : Int) ∧ Below w2.heap.size w2 wr) (fun i _ _ => F.length - (intOf i).toNat)
   case atStart => exact ⟨0, Nat.zero_le _, rfl, Below.refl _ _⟩
   case round =>
    obtain ⟨k, hkk, rfl, hb⟩ := hrel
    have HAr := Lib.hid (HA2.out.below hb)
    have HBr := Lib.hid (HB2.out.below hb)
    have HBB := Lib.hid hb
    have HWr := Lib.hid (HW2.out.trans (hb.mono HW2.out.size))
    clear hb u0 d0 d0' d0'' h0
    have u0 := HBr.out.cell 0 rfl
    by_cases hlt : k < F.length
    ·have k1 : (k : Int) < (F.length : Int) := by omega
     have k0 : (0 : Int) ≤ (k : Int) := by omega
     obtain ⟨gk, ok, eq, hx, hec⟩ := HI.out.at_ hlt
     subst eq
     have HKC : Hid (EC w gk (ok + k) [.int .i64 F[k]]) := Lib.hid (by simpa using hec)
     have HEC : Hid (∀ w', Calls Tryz.prog 54 #[.agg #[.string ⟨tn.toArray⟩, .slice a L.length m, .slice a2 n2 m2, .slice a3 n3 m3, .slice a4 n4 m4], .int .i64 F[k]] w' (Ret w' (.bool (exB F[k] L.length)))) := Lib.hid fun w' => exists13_call L tn a a2 a3 a4 m n2 m2 n3 m3 n4 m4 F[k] w'
     clear hec
     generalize F[k] = kv at HKC HEC
     generalize exB kv L.length = bx at HEC
     go_upto_region 8 with (fail)
     clear u0
     refine Gr.region_grow 7 (by kernel_rfl) (by kernel_rfl) (fun w' => Below wr.heap.size wr w') ⟨rfl, rfl, rfl, Nat.le_refl _, fun _ _ => rfl⟩ ?_
     simp only [List.take_succ_cons, List.take_zero, List.drop_succ_cons, List.drop_zero]
     refine Gr.line_step _ (by go_simp; intro w' hw'; have t0 := (HAr.out.below hw').cell 0 rfl; have t1 := (HAr.out.below hw').cell 1 rfl; have t2 := (HAr.out.below hw').cell 2 rfl; have t3 := (HAr.out.below hw').cell 3 rfl; have t4 := (HAr.out.below hw').cell 4 rfl; go_simp; rw [Gr.grown_value]) ?_
     refine Gr.line_norm fun K hK => ?_; go_simp; refine hK _ ?_; clear hK K
     refine Gr.line_step _ (by go_simp; intro w' hw'; go_simp; rw [Gr.grown_value]) ?_
     refine Gr.line_norm fun K hK => ?_; go_simp; refine hK _ ?_; clear hK K
     refine Gr.line_step _ (by go_simp; intro w' hw'; have u0 := (HBr.out.below hw').cell 0 rfl; go_simp; rw [Gr.grown_value]) ?_
     iterate 2
      refine Gr.line_norm fun K hK => ?_; go_simp; refine hK _ ?_; clear hK K
      refine Gr.line_step _ (by go_simp; intro w' hw'; go_simp; rw [Gr.grown_value]) ?_
     refine Gr.line_norm fun K hK => ?_; go_simp; refine hK _ ?_; clear hK K
     refine Gr.line_step _ (by go_simp; intro w' hw'; have e0 := HKC.out.at0 (HWr.out.trans (hw'.mono HWr.out.size)) rfl; go_simp; rw [Gr.grown_value]) ?_
     refine Gr.line_norm fun K hK => ?_; go_simp; refine hK _ ?_; clear hK K
     refine Gr.line_step (.bool bx) (by go_simp; intro w' hw'; go_simp; rw [Gr.grown_enter]; exact Ret.fam (HEC.out w') hw') ?_
     refine Gr.line_norm fun K hK => ?_; go_simp; refine hK _ ?_; clear hK K
     refine Gr.line_nil fun w4 hw4 => ?_
     have HA4 := Lib.hid (HAr.out.below hw4)
     have HB4 := Lib.hid (HBr.out.below hw4)
     have HW4 := Lib.hid (HWr.out.trans (hw4.mono HWr.out.size))
     have HBB4 := Lib.hid (HBB.out.trans (hw4.mono HBB.out.size))
     clear hw4 HEC HAr HBr HWr HBB
     cases bx with
     | false =>
      go_wp2_with fail
      go_ret
      exact ⟨25, rfl, fun _ => trivial, HW4.out⟩
     | true =>
      go_upto_region 11 with (fail)
      go_loopw [6] (fun j wi => ∃ q : Nat, q ≤ k ∧ j = .int .i64 (q : Int) ∧ Below w4.heap.size w4 wi) (fun j _ => k - (intOf j).toNat)
      case atStart => exact ⟨0, Nat.zero_le _, rfl, Below.refl _ _⟩
      case round =>
       obtain ⟨q, hq, rfl, hb⟩ := hrel
       have HA5 := Lib.hid (HA4.out.below hb)
       have HB5 := Lib.hid (HB4.out.below hb)
       have HBI := Lib.hid hb
       have HW5 := Lib.hid (HW4.out.trans (hb.mono HW4.out.size))
       have HBB5 := Lib.hid (HBB4.out.trans (hb.mono HBB4.out.size))
       clear hb
       by_cases hlq : q < k
       ·have q1 : (q : Int) < (k : Int) := by omega
        have q2 : (q : Int) < (F.length : Int) := by omega
        have q0 : (0 : Int) ≤ (q : Int) := by omega
        have HKD : Hid (∃ v, EC w gk (ok + q) [.int .i64 v]) := Lib.hid (by
         obtain ⟨g2, o2, e2, hx2, hec2⟩ := HI.out.at_ (k := q) (by omega)
         cases e2
         exact ⟨_, by simpa using hec2⟩)
        obtain ⟨kw, hkd⟩ := HKD.out
        have HKD := Lib.hid hkd
        clear hkd
        go_upto_region 13 with (fail)
        refine Gr.region_grow 10 (by kernel_rfl) (by kernel_rfl) (fun w' => Below wr.heap.size wr w') ⟨rfl, rfl, rfl, Nat.le_refl _, fun _ _ => rfl⟩ ?_
        simp only [List.take_succ_cons, List.take_zero, List.drop_succ_cons, List.drop_zero]
        refine Gr.line_step _ (by go_simp; intro w' hw'; go_simp; rw [Gr.grown_value]) ?_
        refine Gr.line_norm fun K hK => ?_; go_simp; refine hK _ ?_; clear hK K
        refine Gr.line_step _ (by go_simp; intro w' hw'; have u0 := (HB5.out.below hw').cell 0 rfl; go_simp; rw [Gr.grown_value]) ?_
        iterate 2
         refine Gr.line_norm fun K hK => ?_; go_simp; refine hK _ ?_; clear hK K
         refine Gr.line_step _ (by go_simp; intro w' hw'; go_simp; rw [Gr.grown_value]) ?_
        refine Gr.line_norm fun K hK => ?_; go_simp; refine hK _ ?_; clear hK K
        refine Gr.line_step _ (by go_simp; intro w' hw'; have e1 := HKD.out.at0 (HW5.out.trans (hw'.mono HW5.out.size)) rfl; go_simp; rw [Gr.grown_value]) ?_
        refine Gr.line_norm fun K hK => ?_; go_simp; refine hK _ ?_; clear hK K
        refine Gr.line_step _ (by go_simp; intro w' hw'; go_simp; rw [Gr.grown_value]) ?_
        refine Gr.line_norm fun K hK => ?_; go_simp; refine hK _ ?_; clear hK K
        refine Gr.line_step _ (by go_simp; intro w' hw'; have u0 := (HB5.out.below hw').cell 0 rfl; go_simp; rw [Gr.grown_value]) ?_
        iterate 2
         refine Gr.line_norm fun K hK => ?_; go_simp; refine hK _ ?_; clear hK K
         refine Gr.line_step _ (by go_simp; intro w' hw'; go_simp; rw [Gr.grown_value]) ?_
        refine Gr.line_norm fun K hK => ?_; go_simp; refine hK _ ?_; clear hK K
        refine Gr.line_step _ (by go_simp; intro w' hw'; have e0 := HKC.out.at0 (HW5.out.trans (hw'.mono HW5.out.size)) rfl; go_simp; rw [Gr.grown_value]) ?_
        refine Gr.line_norm fun K hK => ?_; go_simp; refine hK _ ?_; clear hK K
        refine Gr.line_nil fun w6 hw6 => ?_
        have HW6 := Lib.hid (HW5.out.trans (hw6.mono HW5.out.size))
        have HBI6 := Lib.hid (HBI.out.trans (hw6.mono HBI.out.size))
        clear hw6
        by_cases he : kw = kv
        ·have d1 : (kw == kv) = true := by simp [he]
         go_wp2_with fail
         go_ret
         exact ⟨25, rfl, fun _ => trivial, HW6.out⟩
        ·have d1 : (kw == kv) = false := by simp [he]
         go_wp2_with fail
         go_roundw
         case rel => exact ⟨q + 1, by omega, by go_num, HBI6.out⟩
         case measure => simp [intOf]; omega
       ·obtain rfl : q = k := by omega
        have d1 : decide ((q : Int) < (q : Int)) = false := decide_eq_false (by omega)
        go_wp2_with fail
        go_roundw
        case rel => exact ⟨q + 1, by omega, by go_num, HBB5.out⟩
        case measure => simp [intOf]; omega
    ·obtain rfl : k = F.length := by omega
     have d1 : decide ((F.length : Int) < (F.length : Int)) = false := decide_eq_false (by omega)
     go_wp2_with fail
     go_ret
     exact ⟨0, rfl, fun _ => trivial, HWr.out⟩
end Go.Proofs.YtnlimlboedohgaaGreatDoor.Px

/-
  The foreign keys and checks of a table: the reference's. (Printed by gen_brcon.py.)
-/
namespace Go.Proofs.YtnlimlboedohgaaGreatDoor.Px
open Go Go.RowKit Go.Proofs.YtnlimlboedohgaaGreatDoor.Ps
set_option linter.unusedVariables false
set_option linter.unusedSimpArgs false
theorem constraints13_call (L : List Col) (Fs : List Fkey) (Cs : List X) (tn : S) (a a2 a3 a4 : Option Addr) (m n2 m2 m3 m4 : Nat) (w : World) (hL : L.length ≤ 1000000) (hfl : ∀ f ∈ Fs, f.cols.length ≤ 1099511627776) (hcs : ∀ x ∈ Cs, nodes x ≤ 1000000 ∧ shortX x) (hl : CL w L (.slice a L.length m)) (hf : FL w Fs (.slice a3 Fs.length m3)) (hx : XL w Cs (.slice a4 Cs.length m4)) : Calls Tryz.prog 27 #[.agg #[.string ⟨tn.toArray⟩, .slice a L.length m, .slice a2 n2 m2, .slice a3 Fs.length m3, .slice a4 Cs.length m4]] w (ErrPost w True) := by
 have HL := Lib.hid hl
 have HF := Lib.hid hf
 have HX := Lib.hid hx
 have HFL := Lib.hid hfl
 have HCS := Lib.hid hcs
 clear hl hf hx hfl hcs
 go_enter Tryz.func27, Tryz.ntmps27
 go_upto_region 1 with (fail)
 refine name_alloc (K := Code.wp _ _ _ _) fun w1 hB0 hw1 hz1 => ?_
 have HB0 := Lib.hid hB0
 have HW1 := Lib.hid hw1
 have p3 := hB0.cell 3 rfl
 clear hB0 hw1 hz1
 by_cases h4 : (4 : Int) < (Fs.length : Int)
 ·go_wp2_with fail
  go_ret
  exact ⟨5, rfl, fun _ => trivial, HW1.out⟩
 ·go_upto_region 4 with (fail)
  go_loopw [3, 4] (fun i _ wr => ∃ k : Nat, k ≤ Fs.length ∧ i = .int .i64 (k : Int) ∧ Below w1.heap.size w1 wr) (fun i _ _ => Fs.length - (intOf i).toNat)
  case atStart => exact ⟨0, Nat.zero_le _, rfl, Below.refl _ _⟩
  case round =>
   obtain ⟨k, hkk, rfl, hb⟩ := hrel
   have HBr := Lib.hid (HB0.out.below hb)
   have HBB := Lib.hid hb
   have HWr := Lib.hid (HW1.out.trans (hb.mono HW1.out.size))
   clear hb p3
   have p3 := HBr.out.cell 3 rfl
   by_cases hlt : k < Fs.length
   ·have k1 : (k : Int) < (Fs.length : Int) := by omega
    have k0 : (0 : Int) ≤ (k : Int) := by omega
    obtain ⟨g, o, eq, hxx, b, c, hec, hil⟩ := HF.out.at_ hlt
    subst eq
    have c0 := hec.at0 HWr.out rfl
    have c1 := hec.at_ HWr.out (j := 1) rfl
    have HFC : Hid (∀ w', Below w.heap.size w w' → Calls Tryz.prog 55 #[.agg #[.string ⟨tn.toArray⟩, .slice a L.length m, .slice a2 n2 m2, .slice (some ⟨g, o, none⟩) Fs.length m3, .slice a4 Cs.length m4], .agg #[.slice b Fs[k].cols.length c, .string ⟨Fs[k].tb.toArray⟩]] w' (ErrPost w' True)) := Lib.hid fun w' hw' => foreign13_call L Fs[k].cols tn Fs[k].tb a a2 _ a4 b m n2 m2 _ m3 _ m4 c w' (HFL.out _ (List.getElem_mem _)) (hil.kept hw' (Nat.le_refl _))
    clear hec hil
    generalize Fs[k].cols.length = fl at c0 HFC
    generalize Fs[k].tb = tb at c1 HFC
    have t0 := HBr.out.cell 0 rfl
    have t1 := HBr.out.cell 1 rfl
    have t2 := HBr.out.cell 2 rfl
    have t4 := HBr.out.cell 4 rfl
    have hgd : Below w.heap.size w wr.drew := below_drew HWr.out
    go_upto_region 6 with (fail)
    go_region_law (go_simp; go_at_call 55; refine (HFC.out wr.drew hgd).mono ?_; rintro e w8 ⟨q, rfl, _, hw8⟩; have hb8 : Below wr.heap.size wr w8 := below_undrew hw8)
    all_goals
     have HW8 := Lib.hid (HWr.out.trans (hb8.mono HWr.out.size))
     have HBB8 := Lib.hid (HBB.out.trans (hb8.mono HBB.out.size))
     clear hb8 hw8 hgd t0 t1 t2 t4 c0 c1 p3
     by_cases hq : q = 0
     ·subst hq
      go_wp2_with fail
      go_roundw
      case rel => exact ⟨k + 1, by omega, by go_num, HBB8.out⟩
      case measure => simp [intOf]; omega
     ·have dq : (q != 0) = true := by simp [hq]
      go_wp2_with fail
      go_ret
      exact ⟨q, rfl, fun _ => trivial, HW8.out⟩
   ·obtain rfl : k = Fs.length := by omega
    have d1 : decide ((Fs.length : Int) < (Fs.length : Int)) = false := decide_eq_false (by omega)
    have p4 := HBr.out.cell 4 rfl
    by_cases hc4 : (4 : Int) < (Cs.length : Int)
    ·go_wp2_with fail
     go_ret
     exact ⟨5, rfl, fun _ => trivial, HWr.out⟩
    ·go_upto_region 12 with (fail)
     go_loopw [5, 6, 7] (fun i _ _ ws => ∃ k : Nat, k ≤ Cs.length ∧ i = .int .i64 (k : Int) ∧ Below wr.heap.size wr ws) (fun i _ _ _ => Cs.length - (intOf i).toNat)
     case atStart => exact ⟨0, Nat.zero_le _, rfl, Below.refl _ _⟩
     case round =>
      obtain ⟨k, hkk2, rfl, hb⟩ := hrel
      have HBs := Lib.hid (HBr.out.below hb)
      have HSS := Lib.hid hb
      have HWs := Lib.hid (HWr.out.trans (hb.mono HWr.out.size))
      clear hb p3 p4
      have p4 := HBs.out.cell 4 rfl
      by_cases hlt2 : k < Cs.length
      ·have k1 : (k : Int) < (Cs.length : Int) := by omega
       have k0 : (0 : Int) ≤ (k : Int) := by omega
       obtain ⟨g, o, us, eq, hgl, hcell, hxx, hxr⟩ := HX.out.at_ hlt2
       subst eq
       have hnx := HCS.out _ (List.getElem_mem hxx)
       have HKC : Hid (EC w g (o + k * 7) us) := Lib.hid ⟨hgl, hcell⟩
       have HCH : Hid (∀ w8 g8 c8 b8, Below w.heap.size w w8 → OwnI b8 (.slice (some ⟨g8, 0, none⟩) L.length c8) (kindsC L) w8 → Calls Tryz.prog 56 #[.agg us.toArray, .slice (some ⟨g8, 0, none⟩) L.length c8] w8 (Ret w8 (TupII (chk (kindsC L) Cs[k])))) := Lib.hid fun w8 g8 c8 b8 hw8 ho => by
        have h9 := rCheck_call Cs[k] us w8 (kindsC L) (some ⟨g8, 0, none⟩) c8 hnx.1 hnx.2 (by rw [kindsC_len]; exact hL) (by obtain ⟨a', c', e, h⟩ := ho.form; injection e with e1 e2 e3; subst e1; exact h) (hxr.kept hw8 (Nat.le_refl _))
        rw [kindsC_len] at h9
        exact h9
       clear hcell hnx
       generalize Cs[k] = x at hxr HCH
       generalize chk (kindsC L) x = R at HCH
       obtain ⟨R1, R2⟩ := R
       obtain ⟨op, int, vk, vi, vs, nm, l⟩ := x
       obtain ⟨ax, mx, rfl, _⟩ := hxr.lits
       clear hxr hgl
       have e0 := HKC.out.at0 HWs.out rfl
       have e1 := HKC.out.at_ HWs.out (j := 1) rfl
       have e2 := HKC.out.at_ HWs.out (j := 2) rfl
       have e3 := HKC.out.at_ HWs.out (j := 3) rfl
       have e4 := HKC.out.at_ HWs.out (j := 4) rfl
       have e5 := HKC.out.at_ HWs.out (j := 5) rfl
       have e6 := HKC.out.at_ HWs.out (j := 6) rfl
       have t0 := HBs.out.cell 0 rfl
       have t1 := HBs.out.cell 1 rfl
       have t2 := HBs.out.cell 2 rfl
       have t3 := HBs.out.cell 3 rfl
       have hgd : Below w.heap.size w wr.drew := below_drew HWs.out
       unfold TupII at HCH
       go_upto_region 14 with (fail)
       go_region_law (first | (go_simp; go_at_call 57; refine (kinds13_call L tn a m _ _ _ wr.drew hL (HL.out.kept hgd (Nat.le_refl _))).mono ?_; rintro e w8 ⟨g8, c8, rfl, ho8, hw8⟩; have hb8 : Below wr.heap.size wr w8 := below_undrew hw8; have hq8 := HBs.out.below hb8; have p4 := hq8.cell 4 rfl; have hy8 := HWs.out.trans (hb8.mono HWs.out.size); have HC8 := HCH.out w8 g8 c8 _ hy8 ho8; have e0 := HKC.out.at0 hy8 rfl; have e1 := HKC.out.at_ hy8 (j := 1) rfl; have e2 := HKC.out.at_ hy8 (j := 2) rfl; have e3 := HKC.out.at_ hy8 (j := 3) rfl; have e4 := HKC.out.at_ hy8 (j := 4) rfl; have e5 := HKC.out.at_ hy8 (j := 5) rfl; have e6 := HKC.out.at_ hy8 (j := 6) rfl; clear hq8 hw8 ho8) | (go_simp; go_at_call 56; refine HC8.mono ?_; intro e w9 hp; obtain ⟨hp, hw9⟩ := hp; obtain rfl := hp))
       all_goals
        have HW9 := Lib.hid (hy8.trans (hw9.mono hy8.size))
        have HSS9 := Lib.hid ((HSS.out.trans (hb8.mono HSS.out.size)).trans (hw9.mono (Nat.le_trans HSS.out.size hb8.size)))
        clear hb8 hw9 hy8 hgd HC8 t0 t1 t2 t3 e0 e1 e2 e3 e4 e5 e6 p4
        by_cases hq : R2 = 0
        ·subst hq
         by_cases r3 : R1 = 3
         ·subst r3
          go_wp2_with fail
          go_roundw
          case rel => exact ⟨k + 1, by omega, by go_num, HSS9.out⟩
          case measure => simp [intOf]; omega
         ·have d3 : (R1 != 3) = true := by simp [r3]
          by_cases r0 : R1 = 0
          ·subst r0
           go_wp2_with fail
           go_roundw
           case rel => exact ⟨k + 1, by omega, by go_num, HSS9.out⟩
           case measure => simp [intOf]; omega
          ·have d0 : (R1 != 0) = true := by simp [r0]
           go_wp2_with fail
           go_ret
           exact ⟨7, rfl, fun _ => trivial, HW9.out⟩
        ·have dq : (R2 != 0) = true := by simp [hq]
         go_wp2_with fail
         go_ret
         exact ⟨R2, rfl, fun _ => trivial, HW9.out⟩
      ·obtain rfl : k = Cs.length := by omega
       have d1 : decide ((Cs.length : Int) < (Cs.length : Int)) = false := decide_eq_false (by omega)
       go_wp2_with fail
       go_ret
       exact ⟨0, rfl, fun _ => trivial, HWs.out⟩
end Go.Proofs.YtnlimlboedohgaaGreatDoor.Px

/-
  A table: the reference's Check. Without an error the columns' names differ. (Printed by gen_brcon.py.)
-/
namespace Go.Proofs.YtnlimlboedohgaaGreatDoor.Px
open Go Go.RowKit Go.Proofs.YtnlimlboedohgaaGreatDoor.Ps
set_option linter.unusedVariables false
set_option linter.unusedSimpArgs false
theorem check13_call (L : List Col) (Ks : List Int) (Fs : List Fkey) (Cs : List X) (tn : S) (a a2 a3 a4 : Option Addr) (m m2 m3 m4 : Nat) (w : World) (hL : L.length ≤ 1000000) (hK : Ks.length ≤ 1099511627776) (hfl : ∀ f ∈ Fs, f.cols.length ≤ 1099511627776) (hcs : ∀ x ∈ Cs, nodes x ≤ 1000000 ∧ shortX x) (hl : CL w L (.slice a L.length m)) (hi : IL w Ks (.slice a2 Ks.length m2)) (hf : FL w Fs (.slice a3 Fs.length m3)) (hx : XL w Cs (.slice a4 Cs.length m4)) : Calls Tryz.prog 7 #[.agg #[.string ⟨tn.toArray⟩, .slice a L.length m, .slice a2 Ks.length m2, .slice a3 Fs.length m3, .slice a4 Cs.length m4]] w (ErrPost w (Distinct L)) := by
 have HC := Lib.hid fun (w' : World) (hw' : Below w.heap.size w w') => columns13_call L tn a a2 a3 a4 m Ks.length m2 Fs.length m3 Cs.length m4 w' hL (hl.kept hw' (Nat.le_refl _))
 have HK := Lib.hid fun (w' : World) (hw' : Below w.heap.size w w') => key13_call L Ks tn a a2 a3 a4 m m2 Fs.length m3 Cs.length m4 w' hL hK (hl.kept hw' (Nat.le_refl _)) (hi.kept hw' (Nat.le_refl _))
 have HT := Lib.hid fun (w' : World) (hw' : Below w.heap.size w w') => constraints13_call L Fs Cs tn a a2 a3 a4 m Ks.length m2 m3 m4 w' hL hfl hcs (hl.kept hw' (Nat.le_refl _)) (hf.kept hw' (Nat.le_refl _)) (hx.kept hw' (Nat.le_refl _))
 clear hL hK hfl hcs hl hi hf hx
 go_enter Tryz.func7, Tryz.ntmps7
 go_upto_region 1 with (fail)
 refine name_alloc (K := Code.wp _ _ _ _) fun w1 hB0 hw1 hz1 => ?_
 have HB1 := Lib.hid hB0
 have HW1 := Lib.hid hw1
 have p0 := hB0.cell 0 rfl
 clear hB0 hw1 hz1
 go_wp2_with fail
 refine (rname_at tn w1).mono ?_
 rintro e w2 ⟨rfl, hw2⟩
 have HB2 := Lib.hid (HB1.out.below hw2)
 have HW2 := Lib.hid (HW1.out.trans (hw2.mono HW1.out.size))
 clear hw2 HB1 HW1 p0
 cases hnb : nameB tn with
 | false =>
  go_wp2_with fail
  go_ret
  exact ⟨1, rfl, fun h => absurd h (by decide), HW2.out⟩
 | true =>
  have HC2 := Lib.hid (HC.out w2 HW2.out)
  clear hnb
  have p0 := HB2.out.cell 0 rfl
  have p1 := HB2.out.cell 1 rfl
  have p2 := HB2.out.cell 2 rfl
  have p3 := HB2.out.cell 3 rfl
  have p4 := HB2.out.cell 4 rfl
  go_wp2_with fail
  refine HC2.out.mono ?_
  rintro e w3 ⟨q, rfl, hq0, hw3⟩
  have HD := Lib.hid hq0
  have HB3 := Lib.hid (HB2.out.below hw3)
  have HW3 := Lib.hid (HW2.out.trans (hw3.mono HW2.out.size))
  clear hw3 HB2 HW2 p0 p1 p2 p3 p4 HC2 hq0
  by_cases hq : q = 0
  ·have HDD := Lib.hid (HD.out hq)
   have HK3 := Lib.hid (HK.out w3 HW3.out)
   subst hq
   clear HD
   have p0 := HB3.out.cell 0 rfl
   have p1 := HB3.out.cell 1 rfl
   have p2 := HB3.out.cell 2 rfl
   have p3 := HB3.out.cell 3 rfl
   have p4 := HB3.out.cell 4 rfl
   go_wp2_with fail
   refine HK3.out.mono ?_
   rintro e w4 ⟨q, rfl, _, hw4⟩
   have HB4 := Lib.hid (HB3.out.below hw4)
   have HW4 := Lib.hid (HW3.out.trans (hw4.mono HW3.out.size))
   clear hw4 HB3 HW3 p0 p1 p2 p3 p4 HK3
   by_cases hq : q = 0
   ·subst hq
    have HT4 := Lib.hid (HT.out w4 HW4.out)
    have p0 := HB4.out.cell 0 rfl
    have p1 := HB4.out.cell 1 rfl
    have p2 := HB4.out.cell 2 rfl
    have p3 := HB4.out.cell 3 rfl
    have p4 := HB4.out.cell 4 rfl
    go_wp2_with fail
    refine HT4.out.mono ?_
    rintro e w5 ⟨q, rfl, _, hw5⟩
    have HW5 := Lib.hid (HW4.out.trans (hw5.mono HW4.out.size))
    clear hw5 p0 p1 p2 p3 p4
    go_wp2_with fail
    go_ret
    exact ⟨q, rfl, fun _ => HDD.out, HW5.out⟩
   ·have dq : (q == 0) = false := by simp [hq]
    go_wp2_with fail
    go_ret
    exact ⟨q, rfl, fun _ => HDD.out, HW4.out⟩
  ·have dq : (q == 0) = false := by simp [hq]
   have HQ := Lib.hid hq
   go_wp2_with fail
   go_ret
   exact ⟨q, rfl, fun h => absurd h HQ.out, HW3.out⟩
end Go.Proofs.YtnlimlboedohgaaGreatDoor.Px

/-
  Whether a list's expressions are printable: the law's own function; a list of one expression. (Printed by gen_brlaw.py.)
-/
namespace Go.Proofs.YtnlimlboedohgaaGreatDoor.Px
open Go Go.RowKit Go.Proofs.YtnlimlboedohgaaGreatDoor.Ps
set_option linter.unusedVariables false
set_option linter.unusedSimpArgs false
theorem xl_one {w : World} {g : Nat} {us : List Value} {x : X} (hb : Blk w g us 31) (h : XR w x us) (hl : us.length = 7) : XL w [x] (.slice (some ⟨g, 0, none⟩) 1 1) := by
 unfold XL
 refine Rp.slice (fun _ => us) Tryz.underlying25 (Nat.le_refl _) (by decide) rfl ?_ ?_ ?_
 ·rw [(by kernel_rfl : Tryz.prog.bytesOf 31 = 88)]
  unfold reachBytes
  omega
 ·intro i hi
  have hi0 : i = 0 := by omega
  subst hi0
  rw [zc_Expr]
  refine World.cells?_of_each (Nat.zero_le _) hl fun j hj => ?_
  have e : ((⟨g, 0, none⟩ : Addr).add (0 * 7)).add j = ⟨g, j, none⟩ := by rw [Addr.add_lit, Addr.add_lit]; simp
  rw [e]
  exact (hb.cell j (List.getElem?_eq_getElem (by omega))).trans (List.getElem?_eq_getElem (by omega)).symm
 ·intro i hi
  have hi0 : i = 0 := by simpa [toCs] using hi
  subst hi0
  exact h
theorem printable_call (l : List X) (a : Option Addr) (c : Nat) (w : World) (hk : l.length ≤ 1000000) (hcs : ∀ x ∈ l, nodes x ≤ 1000000 ∧ shortX x) (hE : Env w) (hl : XL w l (.slice a l.length c)) : Calls Tryz.prog 8 #[.slice a l.length c] w (fun e w' => ∃ b : Bool, e = .returned (.bool b) ∧ Below w.heap.size w w') := by
 have HX := Lib.hid hl
 have HCS := Lib.hid hcs
 have HE := Lib.hid hE
 clear hl hcs hE
 go_enter Tryz.func8, Tryz.ntmps8
 go_upto_region 2 with (fail)
 go_loopw [3, 4, 5, 8] (fun _ _ _ i wr => ∃ k : Nat, k ≤ l.length ∧ i = .int .i64 (k : Int) ∧ Below w.heap.size w wr) (fun _ _ _ i _ => l.length - (intOf i).toNat)
 case atStart => exact ⟨0, Nat.zero_le _, rfl, Below.refl _ _⟩
 case round =>
  obtain ⟨k, hkk, rfl, hb⟩ := hrel
  have HWr := Lib.hid hb
  clear hb
  by_cases hlt : k < l.length
  ·have k1 : (k : Int) < (l.length : Int) := by omega
   have k0 : (0 : Int) ≤ (k : Int) := by omega
   obtain ⟨g, o, us, eq, hgl, hcell, hxx, hxr⟩ := HX.out.at_ hlt
   subst eq
   have hnx := HCS.out _ (List.getElem_mem hxx)
   have HKC : Hid (EC w g (o + k * 7) us) := Lib.hid ⟨hgl, hcell⟩
   have HRX := Lib.hid (RExpression_call l[k] us wr hnx.1 hnx.2 (HE.out.below HWr.out) (hxr.kept HWr.out (Nat.le_refl _)))
   clear hcell hnx
   generalize l[k] = x at hxr HRX
   generalize exprR x = R at HRX
   obtain ⟨R1, R2⟩ := R
   obtain ⟨op, int, vk, vi, vs, nm, l'⟩ := x
   obtain ⟨ax, mx, rfl, _⟩ := hxr.lits
   clear hxr hgl
   have e0 := HKC.out.at0 HWr.out rfl
   have e1 := HKC.out.at_ HWr.out (j := 1) rfl
   have e2 := HKC.out.at_ HWr.out (j := 2) rfl
   have e3 := HKC.out.at_ HWr.out (j := 3) rfl
   have e4 := HKC.out.at_ HWr.out (j := 4) rfl
   have e5 := HKC.out.at_ HWr.out (j := 5) rfl
   have e6 := HKC.out.at_ HWr.out (j := 6) rfl
   go_wp2_with fail
   refine HRX.out.mono ?_
   rintro e w2 ⟨rfl, hw2⟩
   have HW2 := Lib.hid (HWr.out.trans (hw2.mono HWr.out.size))
   clear hw2 e0 e1 e2 e3 e4 e5 e6 HRX
   unfold TupSI
   by_cases hq : R2 = 0
   ·subst hq
    go_wp2_with fail
    go_roundw
    case rel => exact ⟨k + 1, by omega, by go_num, HW2.out⟩
    case measure => simp [intOf]; omega
   ·have dq : (R2 != 0) = true := by simp [hq]
    go_wp2_with fail
    go_ret
    exact ⟨false, rfl, HW2.out⟩
  ·obtain rfl : k = l.length := by omega
   have d1 : decide ((l.length : Int) < (l.length : Int)) = false := decide_eq_false (by omega)
   go_wp2_with fail
   go_ret
   exact ⟨true, rfl, HWr.out⟩
end Go.Proofs.YtnlimlboedohgaaGreatDoor.Px

/-
  The run of bitemporal/bitemporallaw20.awake.
-/
set_option maxRecDepth 100000
namespace Go.Proofs.YtnlimlboedohgaaGreatDoor.Ax
open Go Go.RowKit
noncomputable def Awktop_in : CallR := orO Awks0_o (orO Awks1_o (orO Awks2_o (orO Awks3_o (orO Awks4_o (Awkq_o)))))
theorem Awktop_in_ok : CallOK Tryz.prog Awktop_in := orO_ok Awks0_ok (orO_ok Awks1_ok (orO_ok Awks2_ok (orO_ok Awks3_ok (orO_ok Awks4_ok (Awkq_ok)))))
theorem Awktop_f : saysTrue (callR Tryz.prog Awktop_in (drawR Tryz.prog) 300 (.fn 9) [] .leaf 0) = true := by kernel_rfl
theorem awake_call (w : World) (ht : TabW w) : Calls Tryz.prog 9 #[] w fun e w' => e = .returned (.bool true) ∧ Below w.heap.size w w' :=
 calls_true_r Awktop_in_ok Awktop_f (fun _ => .tuple #[]) [] rl_nil w ht trivial
end Go.Proofs.YtnlimlboedohgaaGreatDoor.Ax

/-
  BinderSets: the law's own walk. (Printed by gen_bslaw.py.)
-/
namespace Go.Proofs.YtnlimlboedohgaaGreatDoor.Px
open Go Go.RowKit Go.Proofs.YtnlimlboedohgaaGreatDoor.Ps
set_option linter.unusedVariables false
set_option linter.unusedSimpArgs false
theorem names_short {w : World} {L : List Col} {v : Value} (h : CL w L v) : ∀ c ∈ L, c.nm.length ≤ maxLen := fun c hc => by
 obtain ⟨i, hi, rfl⟩ := List.getElem_of_mem hc
 obtain ⟨_, _, _, ys, e1, e2, _, _, _, hx⟩ := h.slice_inv Tryz.underlying22
 injection e2 with e2
 subst e2
 obtain ⟨_, us, _, _, hu⟩ := hx i (by simpa using hi)
 rw [List.getElem_map] at hu
 obtain ⟨s, q, b, _, e, hs⟩ := shp_Column hu
 unfold toCol at e
 injection e with e
 injection e with e0 _
 injection e0 with e0
 unfold strV at e0
 injection e0 with e0
 rw [← e0] at hs
 simpa [ByteArray.size] using hs
theorem sets_walk (L : List Col) (Ks : List Int) (Fs : List Fkey) (Cs : List X) (tn : S) (a a2 a3 a4 : Option Addr) (m m2 m3 m4 : Nat) (l : List Asg) (sa : Option Addr) (sm : Nat) (w : World) (hL : L.length ≤ 1000000) (hK : Ks.length ≤ 1099511627776) (hfl : ∀ f ∈ Fs, f.cols.length ≤ 1099511627776) (hcs : ∀ x ∈ Cs, nodes x ≤ 1000000 ∧ shortX x) (hk : l.length ≤ 1000000) (hls : ∀ s ∈ l, nodes s.2 ≤ 1000000 ∧ shortX s.2) (hE : Env w) (htb : Ax.TabW w) (hl : CL w L (.slice a L.length m)) (hi : IL w Ks (.slice a2 Ks.length m2)) (hf : FL w Fs (.slice a3 Fs.length m3)) (hxl : XL w Cs (.slice a4 Cs.length m4)) (hnm : ∀ c ∈ L, c.nm.length ≤ maxLen) (hs : SL w l (.slice sa l.length sm)) : Calls Tryz.prog 4 #[.agg #[.string ⟨tn.toArray⟩, .slice a L.length m, .slice a2 Ks.length m2, .slice a3 Fs.length m3, .slice a4 Cs.length m4], .slice sa l.length sm] w (fun e w' => e = .returned (.bool true) ∧ Below w.heap.size w w') := by
 have HT := Lib.hid fun (w' : World) (hw' : Below w.heap.size w w') => Ax.awake_call w' (Ax.tabW_below htb hw')
 have HC := Lib.hid fun (w' : World) (hw' : Below w.heap.size w w') => check13_call L Ks Fs Cs tn a a2 a3 a4 m m2 m3 m4 w' hL hK hfl hcs (hl.kept hw' (Nat.le_refl _)) (hi.kept hw' (Nat.le_refl _)) (hf.kept hw' (Nat.le_refl _)) (hxl.kept hw' (Nat.le_refl _))
 have HP := Lib.hid fun (x : X) (us : List Value) (w' : World) (g : Nat) (hx : nodes x ≤ 1000000 ∧ shortX x) (hw' : Below w.heap.size w w') (hxr : XR w' x us) (hb : Blk w' g us 31) (h7 : us.length = 7) => printable_call [x] (some ⟨g, 0, none⟩) 1 w' (by simp) (fun y hy => by rw [List.mem_singleton.1 hy]; exact hx) (hE.below hw') (xl_one hb hxr h7)
 have HA := Lib.hid fun (hd : Distinct L) (w' : World) (hw' : Below w.heap.size w w') => sets_call L hd tn a a2 a3 a4 m Ks.length m2 Fs.length m3 Cs.length m4 l sa sm w' hL hk hls (hl.kept hw' (Nat.le_refl _)) (hs.kept hw' (Nat.le_refl _)) (hE.below hw').maxl hnm
 have HB := Lib.hid fun (w' : World) (hw' : Below w.heap.size w w') => sets20_call L tn a a2 a3 a4 m Ks.length m2 Fs.length m3 Cs.length m4 l sa sm w' hL hk hls (hl.kept hw' (Nat.le_refl _)) (hs.kept hw' (Nat.le_refl _))
 have HQ := Lib.hid fun (l' : List X) (a b : Option Addr) (c c' : Nat) (w' : World) (h1 : XL w' l' (.slice a l'.length c)) (h2 : XL w' l' (.slice b l'.length c')) => r_List (toCs l') (toCs l') a b l'.length c l'.length c' w' h1 h2
 generalize setsR L tn l = R at HA HB
 have HS := Lib.hid hs
 have HLS := Lib.hid hls
 clear hL hK hfl hcs hls hE htb hl hi hf hxl hnm hs
 go_enter Tryz.func4, Tryz.ntmps4
 go_upto_region 1 with (fail)
 refine name_alloc (K := Code.wp _ _ _ _) fun w1 hA0 hw1 hz1 => ?_
 have HT1 := Lib.hid hA0
 have HW1 := Lib.hid hw1
 clear hA0 hw1 hz1
 go_upto_region 2 with (fail)
 go_loopw [5, 12] (fun _ i wr => ∃ k : Nat, k ≤ l.length ∧ i = .int .i64 (k : Int) ∧ Below w1.heap.size w1 wr) (fun _ i _ => l.length - (intOf i).toNat)
 case atStart => exact ⟨0, Nat.zero_le _, rfl, Below.refl _ _⟩
 case round =>
  obtain ⟨k, hkk, rfl, hb⟩ := hrel
  have HTr := Lib.hid (HT1.out.below hb)
  have HBB := Lib.hid hb
  have HWr := Lib.hid (HW1.out.trans (hb.mono HW1.out.size))
  clear hb
  by_cases hlt : k < l.length
  ·have k1 : (k : Int) < (l.length : Int) := by omega
   have k0 : (0 : Int) ≤ (k : Int) := by omega
   obtain ⟨g, o, us, eq, hxx, hec, hxr, h7, hnm7⟩ := HS.out.at_ hlt
   subst eq
   have hnx := HLS.out _ (List.getElem_mem hxx)
   have HKE := Lib.hid hec.tail
   have HXR := Lib.hid hxr
   have HNX := Lib.hid hnx
   clear hec hnx hxr hnm7 h7
   generalize l[k].2 = x at HXR HNX
   obtain ⟨op, int, vk, vi, vs, nm, xl⟩ := x
   obtain ⟨ax, mx, rfl, _⟩ := HXR.out.lits
   have e0 := HKE.out.at0 HWr.out rfl
   have e1 := HKE.out.at_ HWr.out (j := 1) rfl
   have e2 := HKE.out.at_ HWr.out (j := 2) rfl
   have e3 := HKE.out.at_ HWr.out (j := 3) rfl
   have e4 := HKE.out.at_ HWr.out (j := 4) rfl
   have e5 := HKE.out.at_ HWr.out (j := 5) rfl
   have e6 := HKE.out.at_ HWr.out (j := 6) rfl
   go_upto_region 4 with (fail)
   go_wp2_with fail
   refine (HP.out (.mk op int vk vi vs nm xl) [.int .i64 op, .int .i64 int, .int .i64 vk, .int .i64 vi, .string ⟨vs.toArray⟩, .string ⟨nm.toArray⟩, .slice ax xl.length mx] (wr.alloc (.cells ([.int .i64 op, .int .i64 int, .int .i64 vk, .int .i64 vi, .string ⟨vs.toArray⟩, .string ⟨nm.toArray⟩, .slice ax xl.length mx] : List Value).toArray 31)) wr.heap.size HNX.out (HWr.out.alloc HWr.out.size _) (HXR.out.kept (HWr.out.alloc HWr.out.size _) (Nat.le_refl _)) (Blk.new wr _ _) rfl).mono ?_
   rintro e w3 ⟨bb, rfl, hw3⟩
   have hb23 : Below wr.heap.size wr w3 := (below1 wr _).trans (hw3.mono (by simp))
   have HB3 := Lib.hid (HBB.out.trans (hb23.mono HBB.out.size))
   have HW3 := Lib.hid (HWr.out.trans (hb23.mono HWr.out.size))
   clear hw3 hb23 HTr HWr HBB e0 e1 e2 e3 e4 e5 e6
   cases bb with
   | false =>
    have HTT := Lib.hid (HT.out w3 HW3.out)
    go_wp2_with fail
    refine HTT.out.mono ?_
    rintro e w40 ⟨rfl, hw40⟩
    have HW40 := Lib.hid (HW3.out.trans (hw40.mono HW3.out.size))
    clear hw40
    go_wp2_with fail
    go_ret
    exact ⟨rfl, HW40.out⟩
   | true =>
    go_wp2_with fail
    go_roundw
    case rel => exact ⟨k + 1, by omega, by go_num, HB3.out⟩
    case measure => simp [intOf]; omega
  ·obtain rfl : k = l.length := by omega
   have d1 : decide ((l.length : Int) < (l.length : Int)) = false := decide_eq_false (by omega)
   have p0 := HTr.out.cell 0 rfl
   have p1 := HTr.out.cell 1 rfl
   have p2 := HTr.out.cell 2 rfl
   have p3 := HTr.out.cell 3 rfl
   have p4 := HTr.out.cell 4 rfl
   go_upto_region 7 with (fail)
   clear d1
   go_wp2_with fail
   refine (HC.out wr HWr.out).mono ?_
   rintro e w2 ⟨q, rfl, hd, hw2⟩
   have HD := Lib.hid hd
   have HT2 := Lib.hid (HTr.out.below hw2)
   have HW2 := Lib.hid (HWr.out.trans (hw2.mono HWr.out.size))
   clear hw2 HTr HWr HBB hd p0 p1 p2 p3 p4 HC
   by_cases hq : q = 0
   ·have HD2 := Lib.hid (HD.out hq)
    subst hq
    clear HD
    have HA3 := Lib.hid (HA.out HD2.out w2 HW2.out)
    clear HA HD2
    have p0 := HT2.out.cell 0 rfl
    have p1 := HT2.out.cell 1 rfl
    have p2 := HT2.out.cell 2 rfl
    have p3 := HT2.out.cell 3 rfl
    have p4 := HT2.out.cell 4 rfl
    cases R with
    | inr qe =>
     go_wp2_with fail
     refine HA3.out.mono ?_
     intro e w4 hp
     obtain ⟨hp, hw4⟩ := hp
     obtain rfl := (hp : e = .returned (.tuple #[.slice none 0 0, .int .i64 qe]))
     have HT4 := Lib.hid (HT2.out.below hw4)
     have HW4 := Lib.hid (HW2.out.trans (hw4.mono HW2.out.size))
     have HB4 := Lib.hid (HB.out w4 HW4.out)
     clear hw4 HT2 HW2 p0 p1 p2 p3 p4 HA3 HB
     have p0 := HT4.out.cell 0 rfl
     have p1 := HT4.out.cell 1 rfl
     have p2 := HT4.out.cell 2 rfl
     have p3 := HT4.out.cell 3 rfl
     have p4 := HT4.out.cell 4 rfl
     go_wp2_with fail
     refine HB4.out.mono ?_
     intro e w6 hp
     obtain ⟨hp, hw6⟩ := hp
     obtain rfl := (hp : e = .returned (.tuple #[.slice none 0 0, .int .i64 qe]))
     have HW6 := Lib.hid (HW4.out.trans (hw6.mono HW4.out.size))
     have HS7 := Lib.hid (HQ.out [] none none 0 0 w6 (Rp.nil Tryz.underlying25) (Rp.nil Tryz.underlying25))
     clear hw6 HT4 HW4 HB4 HQ p0 p1 p2 p3 p4
     go_wp2_with fail
     refine HS7.out.mono ?_
     rintro e w8 ⟨rfl, hw8⟩
     rw [eqC_self]
     have HW8 := Lib.hid (HW6.out.trans (hw8.mono HW6.out.size))
     clear hw8 HS7
     have HTT := Lib.hid (HT.out w8 HW8.out)
     go_wp2_with fail
     refine HTT.out.mono ?_
     rintro e w40 ⟨rfl, hw40⟩
     have HW40 := Lib.hid (HW8.out.trans (hw40.mono HW8.out.size))
     clear hw40
     go_wp2_with fail
     go_ret
     exact ⟨rfl, HW40.out⟩
    | inl l' =>
     go_wp2_with fail
     refine HA3.out.mono ?_
     intro e w4 hp
     obtain ⟨hp, hw4⟩ := hp
     obtain ⟨v1, rfl, ⟨ya1, ym1, rfl⟩, hxf1⟩ := (hp : ∃ v, e = .returned (.tuple #[v, .int .i64 0]) ∧ (∃ a c, v = .slice a l'.length c) ∧ ∀ wz : World, (∀ b, w2.heap.size ≤ b → b < w4.heap.size → wz.heap[b]? = w4.heap[b]?) → XL wz l' v)
     have HXF1 := Lib.hid hxf1
     clear hxf1
     have HT4 := Lib.hid (HT2.out.below hw4)
     have HW4 := Lib.hid (HW2.out.trans (hw4.mono HW2.out.size))
     have HB4 := Lib.hid (HB.out w4 HW4.out)
     clear hw4 HT2 HW2 p0 p1 p2 p3 p4 HA3 HB
     have p0 := HT4.out.cell 0 rfl
     have p1 := HT4.out.cell 1 rfl
     have p2 := HT4.out.cell 2 rfl
     have p3 := HT4.out.cell 3 rfl
     have p4 := HT4.out.cell 4 rfl
     go_wp2_with fail
     refine HB4.out.mono ?_
     intro e w6 hp
     obtain ⟨hp, hw6⟩ := hp
     obtain ⟨v2, rfl, ⟨ya2, ym2, rfl⟩, hxf2⟩ := (hp : ∃ v, e = .returned (.tuple #[v, .int .i64 0]) ∧ (∃ a c, v = .slice a l'.length c) ∧ ∀ wz : World, (∀ b, w4.heap.size ≤ b → b < w6.heap.size → wz.heap[b]? = w6.heap[b]?) → XL wz l' v)
     have HXF2 := Lib.hid hxf2
     clear hxf2
     have HW6 := Lib.hid (HW4.out.trans (hw6.mono HW4.out.size))
     have HS7 := Lib.hid (HQ.out l' ya1 ya2 ym1 ym2 w6 (HXF1.out w6 fun b b1 b2 => hw6.block b b2) (HXF2.out w6 fun _ _ _ => rfl))
     clear hw6 HT4 HW4 HB4 HQ p0 p1 p2 p3 p4
     go_wp2_with fail
     refine HS7.out.mono ?_
     rintro e w8 ⟨rfl, hw8⟩
     rw [eqC_self]
     have HW8 := Lib.hid (HW6.out.trans (hw8.mono HW6.out.size))
     clear hw8 HS7
     have HTT := Lib.hid (HT.out w8 HW8.out)
     go_wp2_with fail
     refine HTT.out.mono ?_
     rintro e w40 ⟨rfl, hw40⟩
     have HW40 := Lib.hid (HW8.out.trans (hw40.mono HW8.out.size))
     clear hw40
     go_wp2_with fail
     go_ret
     exact ⟨rfl, HW40.out⟩
   ·have dq : (q != 0) = true := by simp [hq]
    have HTT := Lib.hid (HT.out w2 HW2.out)
    go_wp2_with fail
    refine HTT.out.mono ?_
    rintro e w40 ⟨rfl, hw40⟩
    have HW40 := Lib.hid (HW2.out.trans (hw40.mono HW2.out.size))
    clear hw40
    go_wp2_with fail
    go_ret
    exact ⟨rfl, HW40.out⟩
theorem sets_tr (t : Tbl) (l : List Asg) (ts : List Value) (v : Value) (w : World) (hL : t.cols.length ≤ 1000000) (hK : t.key.length ≤ 1099511627776) (hfl : ∀ f ∈ t.fors, f.cols.length ≤ 1099511627776) (hcs : ∀ x ∈ t.checks, nodes x ≤ 1000000 ∧ shortX x) (hk : l.length ≤ 1000000) (hls : ∀ s ∈ l, nodes s.2 ≤ 1000000 ∧ shortX s.2) (hE : Env w) (htb : Ax.TabW w) (ht : TR w t ts) (hs : SL w l v) : Calls Tryz.prog 4 #[.agg ts.toArray, v] w (fun e w' => e = .returned (.bool true) ∧ Below w.heap.size w w') := by
 obtain ⟨a1, m1, a2, m2, a3, m3, a4, m4, rfl, _, h1, h2, h3, h4⟩ := ht.lits
 obtain ⟨sa, n, sm, xs, e1, e2, e3, _⟩ := hs.slice_inv Tryz.underlying40
 injection e1 with e1 _
 injection e2 with e2
 subst e1 e2
 rw [List.length_map] at e3
 subst e3
 exact sets_walk t.cols t.key t.fors t.checks t.nm a1 a2 a3 a4 m1 m2 m3 m4 l sa sm w hL hK hfl hcs hk hls hE htb h1 h2 h3 h4 (names_short h1) hs
end Go.Proofs.YtnlimlboedohgaaGreatDoor.Px
