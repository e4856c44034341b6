import Derived.Test.YtnlimlboedohgaaGreatDoorProg
import Derived.MapKept
import Derived.WalkKit
import Derived.WalkSmall
import Derived.Below
import Derived.Test.YtnlimlboedohgaaGreatDoorPxQ
import Derived.Test.YtnlimlboedohgaaGreatDoorLnA
import Derived.Test.YtnlimlboedohgaaGreatDoorLbEnv
import Derived.Test.YtnlimlboedohgaaGreatDoorShelf4
/-
  A map of integers to texts that the call itself makes: an entry is put in, and looked up.
-/
set_option maxHeartbeats 8000000
set_option maxRecDepth 100000
namespace Go.Proofs.YtnlimlboedohgaaGreatDoor.Px
open Go Go.RowKit Go.MapKept
set_option linter.unusedVariables false
set_option linter.unusedSimpArgs false
section
variable {ops : Array Oper} {rest : List Oper} {o : Oper} {a : Act} {Q : Exit -> Act -> World -> Prop} {w0 w : World} {b : Nat} {l : List (Int × ByteArray)}
end
end Go.Proofs.YtnlimlboedohgaaGreatDoor.Px

/-
  Small functions over expressions: levels, numbers of arguments, symbols, keywords of bounds and of relations, the program's and the reference's. (Printed by gen_pxsm.py.)
-/
namespace Go.Proofs.YtnlimlboedohgaaGreatDoor.Px
open Go Go.RowKit Go.Proofs.YtnlimlboedohgaaGreatDoor.Ps
set_option linter.unusedVariables false
set_option linter.unusedSimpArgs false
theorem rlevel_call {x : X} {cs : List Value} {w : World} (h : XR w x cs) : Calls Tryz.prog 105 #[.agg cs.toArray] w (Ret w (.int .i64 (level x))) := by
 obtain ⟨op, int, vk, vi, vs, nm, l⟩ := x
 obtain ⟨a, m, rfl, _⟩ := h.lits
 have hl : level (.mk op int vk vi vs nm l) = levelOf op vk vi := rfl
 rw [hl]
 clear h hl
 go_enter Tryz.func105, Tryz.ntmps105
 go_upto_region 1 with (fail)
 refine nA fun w1 hB hw1 hz1 => ?_
 have p0 := hB.cell 0 rfl
 have p2 := hB.cell 2 rfl
 have p3 := hB.cell 3 rfl
 have HW := h_ hw1
 have HBk := h_ hB
 clear hB hw1
 go_wp2_with fail
 all_goals (go_ret; refine ⟨congrArg (fun z => Ending.returned (.int .i64 z)) ?_, HW.out⟩; unfold levelOf; simp_all)
theorem arity_call (op : Int) (w : World) : Calls Tryz.prog 175 #[.int .i64 op] w (Ret w (.tuple #[.int .i64 (arity op).1, .int .i64 (arity op).2])) := by
 go_enter Tryz.func175, Tryz.ntmps175
 go_wp2_with fail
 all_goals (go_ret2; refine ⟨congrArg (fun z : Int × Int => Ending.returned (.tuple #[.int .i64 z.1, .int .i64 z.2])) (?_ : (_, _) = arity op), Below.refl _ _⟩; unfold arity; simp_all)
theorem rsign_call (op : Int) (w : World) (h : op ≠ 5 /\ op ≠ 6 /\ op ≠ 20 /\ op ≠ 22 /\ op ≠ 23) : Calls Tryz.prog 106 #[.int .i64 op] w (Ret w (.string ⟨(signL op).toArray⟩)) := by
 obtain ⟨h1, h2, h3, h4, h5⟩ := h
 go_enter Tryz.func106, Tryz.ntmps106
 go_wp2_with fail
 all_goals (go_ret; refine ⟨congrArg (fun z => Ending.returned (.string z)) ?_, Below.refl _ _⟩; unfold signL; simp_all)
theorem mkL (l : S) : (ByteArray.mk l.toArray).data.toList = l := by simp
theorem mkS (l : S) : (ByteArray.mk l.toArray).size = l.length := by simp [ByteArray.size]
theorem dot_cons (b : UInt8) (l : S) : hasDot (b :: l) = (b == 46 || hasDot l) := by
 unfold hasDot
 rw [List.contains_cons]
 by_cases h : b = 46
 ·subst h; rfl
 ·have h2 : ¬ (46 : UInt8) = b := fun e => h e.symm
  have e1 : (b == 46) = false := by simpa using h
  have e2 : ((46 : UInt8) == b) = false := by simpa using h2
  rw [e1, e2]
theorem idx_dot : ∀ s : S, Lib.index s [46] = if hasDot s then ((preDot s).length : Int) else -1
 | [] => by simp [Lib.index, hasDot]
 | b :: l => by
  rw [dot_cons]
  by_cases h : b = 46
  ·subst h
   simp [Lib.index, preDot]
  ·have hp : ([46] : S).isPrefixOf (b :: l) = false := by simp [List.isPrefixOf]; exact fun e => h e.symm
   have hpre : preDot (b :: l) = b :: preDot l := by simp [preDot, h]
   have hb : (b == 46) = false := by simpa using h
   rw [hpre, hb, Bool.false_or]
   unfold Lib.index
   rw [hp, idx_dot l]
   cases hd : hasDot l with
   | false => simp
   | true => simp <;> omega
theorem pre_take (s : S) : s.take (preDot s).length = preDot s := by
 have h : preDot s <+: s := List.takeWhile_prefix _
 exact (List.prefix_iff_eq_take.1 h).symm
theorem cut_dot (s : S) : Lib.cut s [46] = if hasDot s then (preDot s, postDot s, true) else (s, [], false) := by
 unfold Lib.cut
 rw [idx_dot]
 cases hd : hasDot s with
 | false => simp
 | true =>
  simp only [if_true]
  rw [if_pos (by omega)]
  simp only [Int.toNat_natCast, pre_take]
  rfl
theorem rname_at (s : S) (w : World) : Calls Tryz.prog 24 #[.string ⟨s.toArray⟩] w (Ret w (.bool (nameB s))) := by
 have := name_ref13 ⟨s.toArray⟩ w
 unfold NmPost at this
 rw [mkL] at this
 exact this
/-! ### the reference -/
theorem dot_none {s : ByteArray} (h : ∀ j (hj : j < s.size), s[j] ≠ 46) : hasDot s.data.toList = false := by
 cases hd : hasDot s.data.toList with
 | false => rfl
 | true =>
  have hm : (46 : UInt8) ∈ s.data.toList := by unfold hasDot at hd; simpa using hd
  obtain ⟨j, hj, e⟩ := List.mem_iff_getElem.1 hm
  exact absurd e (h j (by simpa using hj))
theorem dot_first {s : ByteArray} {k : Nat} (hk : k < s.size) (hall : ∀ j (hj : j < s.size), j < k -> s[j] ≠ 46) (hc : s[k] = 46) : hasDot s.data.toList = true /\ (preDot s.data.toList).length = k := by
 have hk' : k < s.data.toList.length := by simpa using hk
 have hgen : ∀ (l : S) (k : Nat) (hk : k < l.length), (∀ j (hj : j < l.length), j < k -> l[j] ≠ 46) -> l[k] = 46 -> hasDot l = true /\ (preDot l).length = k := by
  intro l
  induction l with
  | nil => intro k hk; simp at hk
  | cons b l ih =>
   intro k hk hall hc
   rw [dot_cons]
   cases k with
   | zero =>
    have hb : b = 46 := hc
    subst hb
    exact ⟨rfl, by simp [preDot]⟩
   | succ k =>
    have hb : b ≠ 46 := hall 0 (by simp) (by omega)
    have := ih k (by simpa using hk) (fun j hj hjk => hall (j + 1) (by simpa using hj) (by omega)) (by simpa using hc)
    refine ⟨by rw [this.1]; simp, ?_⟩
    have hpre : preDot (b :: l) = b :: preDot l := by simp [preDot, hb]
    rw [hpre, List.length_cons, this.2]
 exact hgen _ k hk' (fun j hj hjk => hall j (by simpa using hj) hjk) hc
def PtRel (s : ByteArray) (i : Value) : Prop := ∃ k : Nat, k <= s.size /\ i = .int .i64 k /\ ∀ j (h : j < s.size), j < k -> s[j] ≠ 46
def pointV (s : S) : Int := if hasDot s then ((preDot s).length : Int) else -1
theorem byte_ne {c : UInt8} (h : c ≠ 46) : ¬ (c.toNat : Int) = 46 := fun e => h (UInt8.toNat_inj.1 (by show c.toNat = 46; omega))
theorem point_any (s : ByteArray) (w : World) (hs : s.size <= 140737488351232) : Calls Tryz.prog 246 #[.string s] w (Ret w (.int .i64 (pointV s.data.toList))) := by
 go_enter Tryz.func246, Tryz.ntmps246
 go_wp2_with fail
 go_loop [3] (fun i => PtRel s i) (fun i => s.size - (intOf i).toNat)
 case atStart => exact ⟨0, Nat.zero_le _, rfl, fun j _ hj => absurd hj (by omega)⟩
 case round =>
  obtain ⟨k, hk, rfl, hi⟩ := hrel
  have HI := h_ hi
  clear hi
  by_cases hlt : k < s.size
  ·by_cases hc : s[k] = 46
   ·have HD := h_ (dot_first hlt HI.out hc)
    have hc2 : (s[k].toNat : Int) = 46 := by rw [hc]; rfl
    clear hc HI
    go_wp2_with fail
    go_ret
    exact ⟨by unfold pointV; rw [HD.out.1, HD.out.2]; rfl, Below.refl _ _⟩
   ·have hc2 := byte_ne hc
    have HIN : Hid (∀ j (h : j < s.size), j < k + 1 -> s[j] ≠ 46) := h_ (fun j hj hjk => by
     by_cases e : j = k
     ·subst e; exact hc
     ·exact HI.out j hj (by omega))
    clear hc
    go_wp2_with fail
    go_round
    case rel => exact ⟨k + 1, by omega, by go_num, HIN.out⟩
    case measure => simp [intOf]; omega
  ·obtain rfl : k = s.size := by omega
   have HD := h_ (dot_none fun j hj => HI.out j hj hj)
   clear HI
   go_wp2_with fail
   go_ret
   exact ⟨by unfold pointV; rw [HD.out]; rfl, Below.refl _ _⟩
theorem point_call (s : S) (w : World) (hs : s.length <= 140737488351232) : Calls Tryz.prog 246 #[.string ⟨s.toArray⟩] w (Ret w (.int .i64 (pointV s))) := by
 have := point_any ⟨s.toArray⟩ w (by rw [mkS]; exact hs)
 rwa [mkL] at this
theorem null_call (w : World) : Calls Tryz.prog 139 #[] w (Ret w (.agg #[.int .i64 0, .int .i64 0, .string ⟨#[]⟩])) := by
 go_enter Tryz.func139, Tryz.ntmps139
 go_wp2_with fail
 exact bodyPost_ret (results_cell_row Tryz.results139 _ _ w.heap.size _ _ (0, 0) _ rfl (heap_alloc_new w _) Tryz.underlying29 rfl (by kernel_rfl)) rfl ⟨rfl, below1 w _⟩
theorem true_call (w : World) : Calls Tryz.prog 149 #[.bool true] w (Ret w (.agg #[.int .i64 3, .int .i64 1, .string ⟨#[]⟩])) := by
 go_enter Tryz.func149, Tryz.ntmps149
 go_wp2_with fail
 exact bodyPost_ret (results_cell_row Tryz.results149 _ _ w.heap.size _ _ (0, 0) _ rfl (heap_alloc_new w _) Tryz.underlying29 rfl (by kernel_rfl)) rfl ⟨rfl, below1 w _⟩
theorem false_call (w : World) : Calls Tryz.prog 149 #[.bool false] w (Ret w (.agg #[.int .i64 3, .int .i64 0, .string ⟨#[]⟩])) := by
 go_enter Tryz.func149, Tryz.ntmps149
 go_wp2_with fail
 exact bodyPost_ret (results_cell_row Tryz.results149 _ _ w.heap.size _ _ (0, 0) _ rfl (heap_alloc_new w _) Tryz.underlying29 rfl (by kernel_rfl)) rfl ⟨rfl, below1 w _⟩
/-! ### relations -/
theorem rel_none {n : Int} (h : ¬ (0 <= n /\ n < 13)) : relL n = [] := by
 unfold relL
 repeat rw [if_neg (by omega)]
theorem thirteen {n : Int} (h : 0 <= n /\ n < 13) : n = 0 \/ n = 1 \/ n = 2 \/ n = 3 \/ n = 4 \/ n = 5 \/ n = 6 \/ n = 7 \/ n = 8 \/ n = 9 \/ n = 10 \/ n = 11 \/ n = 12 := by omega
theorem rrel_call (n : Int) (w : World) : Calls Tryz.prog 101 #[.int .i64 n] w (Ret w (.string ⟨(relL n).toArray⟩)) := by
 by_cases h : 0 <= n /\ n < 13
 ·rcases thirteen h with rfl | rfl | rfl | rfl | rfl | rfl | rfl | rfl | rfl | rfl | rfl | rfl | rfl
  all_goals
   clear h
   go_enter Tryz.func101, Tryz.ntmps101
   go_wp2_with fail
   go_ret
   exact ⟨rfl, below1 w _⟩
 ·rw [rel_none h]
  by_cases h0 : n < 0
  ·clear h
   go_enter Tryz.func101, Tryz.ntmps101
   go_wp2_with fail
   go_ret
   exact ⟨rfl, Below.refl _ _⟩
  ·have h1 : (13 : Int) <= n := by omega
   clear h
   go_enter Tryz.func101, Tryz.ntmps101
   go_wp2_with fail
   go_ret
   exact ⟨rfl, Below.refl _ _⟩
/-! ### printable bytes -/
def okL (l : S) : Bool := l.all (fun c => !badB c.toNat)
def OkRel (s : ByteArray) (i : Value) : Prop := ∃ k : Nat, k <= s.size /\ i = .int .i64 k /\ ∀ j (h : j < s.size), j < k -> badB s[j].toNat = false
theorem ok_all {s : ByteArray} (h : ∀ j (hj : j < s.size), badB s[j].toNat = false) : okL s.data.toList = true := by
 unfold okL
 rw [List.all_eq_true]
 intro c hc
 obtain ⟨j, hj, e⟩ := List.mem_iff_getElem.1 hc
 have hj' : j < s.size := by simpa using hj
 have h3 := h j hj'
 have e2 : s[j] = c := e
 rw [e2] at h3
 rw [h3]
 rfl
theorem ok_not {s : ByteArray} {k : Nat} (hk : k < s.size) (h : badB s[k].toNat = true) : okL s.data.toList = false := by
 cases ho : okL s.data.toList with
 | false => rfl
 | true =>
  unfold okL at ho
  have := List.all_eq_true.1 ho _ (mem_at hk)
  rw [h] at this
  cases this
theorem bad_cases (n : Nat) : (badB n = true /\ (n : Int) < 32) \/ (badB n = true /\ (32 : Int) <= n /\ (126 : Int) < n) \/ (badB n = false /\ (32 : Int) <= n /\ (n : Int) <= 126) := by
 unfold badB
 simp
 omega
theorem printable_any (s : ByteArray) (w : World) (hs : s.size <= 140737488351232) : Calls Tryz.prog 137 #[.string s] w (Ret w (.bool (okL s.data.toList))) := by
 go_enter Tryz.func137, Tryz.ntmps137
 go_wp2_with fail
 go_loop [3, 6] (fun _ i => OkRel s i) (fun _ i => s.size - (intOf i).toNat)
 case atStart => exact ⟨0, Nat.zero_le _, rfl, fun j _ hj => absurd hj (by omega)⟩
 case round =>
  obtain ⟨k, hk, rfl, hi⟩ := hrel
  have HI := h_ hi
  clear hi
  by_cases hlt : k < s.size
  ·rcases bad_cases s[k].toNat with ⟨hb, h1⟩ | ⟨hb, h1, h2⟩ | ⟨hb, h1, h2⟩
   ·have HN := h_ (ok_not hlt hb)
    clear hb HI
    go_wp2_with fail
    go_ret
    exact ⟨by rw [HN.out]; rfl, Below.refl _ _⟩
   ·have HN := h_ (ok_not hlt hb)
    clear hb HI
    go_wp2_with fail
    go_ret
    exact ⟨by rw [HN.out]; rfl, Below.refl _ _⟩
   ·have HIN : Hid (∀ j (h : j < s.size), j < k + 1 -> badB s[j].toNat = false) := h_ (fun j hj hjk => by
     by_cases e : j = k
     ·subst e; exact hb
     ·exact HI.out j hj (by omega))
    clear hb
    go_wp2_with fail
    go_round
    case rel => exact ⟨k + 1, by omega, by go_num, HIN.out⟩
    case measure => simp [intOf]; omega
  ·obtain rfl : k = s.size := by omega
   have HN := h_ (ok_all fun j hj => HI.out j hj hj)
   clear HI
   go_wp2_with fail
   go_ret
   exact ⟨by rw [HN.out]; rfl, Below.refl _ _⟩
theorem rprintable_any (s : ByteArray) (w : World) (hs : s.size <= 140737488351232) : Calls Tryz.prog 223 #[.string s] w (Ret w (.bool (okL s.data.toList))) := by
 go_enter Tryz.func223, Tryz.ntmps223
 go_wp2_with fail
 go_loop [3] (fun i => OkRel s i) (fun i => s.size - (intOf i).toNat)
 case atStart => exact ⟨0, Nat.zero_le _, rfl, fun j _ hj => absurd hj (by omega)⟩
 case round =>
  obtain ⟨k, hk, rfl, hi⟩ := hrel
  have HI := h_ hi
  clear hi
  by_cases hlt : k < s.size
  ·rcases bad_cases s[k].toNat with ⟨hb, h1⟩ | ⟨hb, h1, h2⟩ | ⟨hb, h1, h2⟩
   ·have HN := h_ (ok_not hlt hb)
    clear hb HI
    go_wp2_with fail
    go_ret
    exact ⟨by rw [HN.out]; rfl, Below.refl _ _⟩
   ·have HN := h_ (ok_not hlt hb)
    clear hb HI
    go_wp2_with fail
    go_ret
    exact ⟨by rw [HN.out]; rfl, Below.refl _ _⟩
   ·have HIN : Hid (∀ j (h : j < s.size), j < k + 1 -> badB s[j].toNat = false) := h_ (fun j hj hjk => by
     by_cases e : j = k
     ·subst e; exact hb
     ·exact HI.out j hj (by omega))
    clear hb
    go_wp2_with fail
    go_round
    case rel => exact ⟨k + 1, by omega, by go_num, HIN.out⟩
    case measure => simp [intOf]; omega
  ·obtain rfl : k = s.size := by omega
   have HN := h_ (ok_all fun j hj => HI.out j hj hj)
   clear HI
   go_wp2_with fail
   go_ret
   exact ⟨by rw [HN.out]; rfl, Below.refl _ _⟩
theorem mkE (l : S) : (ByteArray.mk l.toArray).toList.isEmpty = l.isEmpty := by rw [Lib.toList_data]
theorem valid_call (vk vi : Int) (vs : S) (w : World) (hs : vs.length <= 140737488351232) : Calls Tryz.prog 83 #[.agg #[.int .i64 vk, .int .i64 vi, .string ⟨vs.toArray⟩]] w (Ret w (.bool (validV vk vi vs))) := by
 have hsz := mkS vs
 have hem := mkE vs
 have CP := h_ fun w1 => printable_any ⟨vs.toArray⟩ w1 (by rw [hsz]; exact hs)
 rw [mkL] at CP
 go_enter Tryz.func83, Tryz.ntmps83
 go_upto_region 1 with (fail)
 refine nA fun w1 hB hw1 hz1 => ?_
 obtain ⟨p0, p1, p2⟩ := hB.c3
 have HW := h_ hw1
 have HBk := h_ hB
 clear hB hw1
 cases he : vs.isEmpty <;> rw [he] at hem <;> go_wp2_with fail
 all_goals (try (refine (CP.out w1).mono ?_; rintro e w2 ⟨rfl, hw2⟩; have HW2 := t_ HW hw2; clear hw2; go_wp2_with fail))
 all_goals (go_ret; first | (refine ⟨congrArg (fun z => Ending.returned (.bool z)) ?_, HW.out⟩; clear HBk p0 p1 p2; unfold validV; simp_all [okL, maxN] <;> first | omega | rfl | (intro h9; have := of_decide_eq_true h9; omega) | (rw [Bool.eq_iff_iff]; simp <;> omega)) | (refine ⟨congrArg (fun z => Ending.returned (.bool z)) ?_, HW2.out⟩; clear HBk p0 p1 p2; unfold validV; simp_all [okL, maxN] <;> first | omega | rfl | (intro h9; have := of_decide_eq_true h9; omega) | (rw [Bool.eq_iff_iff]; simp <;> omega)))
theorem rvalid_call (vk vi : Int) (vs : S) (w : World) (hs : vs.length <= 140737488351232) : Calls Tryz.prog 153 #[.agg #[.int .i64 vk, .int .i64 vi, .string ⟨vs.toArray⟩]] w (Ret w (.bool (validV vk vi vs))) := by
 have hsz := mkS vs
 have hem := mkE vs
 have CP := h_ fun w1 => rprintable_any ⟨vs.toArray⟩ w1 (by rw [hsz]; exact hs)
 rw [mkL] at CP
 go_enter Tryz.func153, Tryz.ntmps153
 go_upto_region 1 with (fail)
 refine nA fun w1 hB hw1 hz1 => ?_
 obtain ⟨p0, p1, p2⟩ := hB.c3
 have HW := h_ hw1
 have HBk := h_ hB
 clear hB hw1
 cases he : vs.isEmpty <;> rw [he] at hem <;> go_wp2_with fail
 all_goals (try (refine (CP.out w1).mono ?_; rintro e w2 ⟨rfl, hw2⟩; have HW2 := t_ HW hw2; clear hw2; go_wp2_with fail))
 all_goals (go_ret; first | (refine ⟨congrArg (fun z => Ending.returned (.bool z)) ?_, HW.out⟩; clear HBk p0 p1 p2; unfold validV; simp_all [okL, maxN] <;> first | omega | rfl | (intro h9; have := of_decide_eq_true h9; omega) | (rw [Bool.eq_iff_iff]; simp <;> omega)) | (refine ⟨congrArg (fun z => Ending.returned (.bool z)) ?_, HW2.out⟩; clear HBk p0 p1 p2; unfold validV; simp_all [okL, maxN] <;> first | omega | rfl | (intro h9; have := of_decide_eq_true h9; omega) | (rw [Bool.eq_iff_iff]; simp <;> omega)))
theorem lit_int {vi : Int} {vs : S} (h : validV 1 vi vs = true) : litL 1 vi vs = itoaL vi /\ -maxN <= vi /\ vi <= maxN := by
 refine ⟨by unfold litL; rw [if_pos h]; rfl, ?_⟩
 have e : validV 1 vi vs = (vs.isEmpty && (decide (-maxN <= vi) && decide (vi <= maxN))) := rfl
 rw [e] at h
 simp only [Bool.and_eq_true, decide_eq_true_eq] at h
 exact h.2
theorem lit_text {vi : Int} {vs : S} (h : validV 2 vi vs = true) : litL 2 vi vs = quoteL vs /\ vs.length <= 200 := by
 refine ⟨by unfold litL; rw [if_pos h]; rfl, ?_⟩
 have e : validV 2 vi vs = (decide (vi = 0) && (decide (vs.length <= 200) && vs.all (fun c => !badB c.toNat))) := rfl
 rw [e] at h
 simp only [Bool.and_eq_true, decide_eq_true_eq] at h
 exact h.2.1
theorem lit_bool {vi : Int} {vs : S} (h : validV 3 vi vs = true) : litL 3 vi vs = (if vi = 1 then [84, 82, 85, 69] else [70, 65, 76, 83, 69]) /\ vs = [] /\ (vi = 0 \/ vi = 1) := by
 refine ⟨by unfold litL; rw [if_pos h]; rfl, ?_⟩
 have e : validV 3 vi vs = (vs.isEmpty && (decide (vi = 0) || decide (vi = 1))) := rfl
 rw [e] at h
 simp only [Bool.and_eq_true, Bool.or_eq_true, decide_eq_true_eq, List.isEmpty_iff] at h
 exact h
theorem lit_kind {vk vi : Int} {vs : S} (h : validV vk vi vs = true) (h1 : vk ≠ 1) (h2 : vk ≠ 2) (h3 : vk ≠ 3) : litL vk vi vs = [78, 85, 76, 76] /\ vk = 0 /\ vi = 0 /\ vs = [] := by
 have h0 : vk = 0 := by
  unfold validV at h
  by_cases e : vk = 0
  ·exact e
  ·rw [if_neg e, if_neg h1, if_neg h2, if_neg h3] at h
   cases h
 subst h0
 refine ⟨by unfold litL; rw [if_pos h]; rfl, rfl, ?_⟩
 have e : validV 0 vi vs = (decide (vi = 0) && vs.isEmpty) := rfl
 rw [e] at h
 simp only [Bool.and_eq_true, decide_eq_true_eq, List.isEmpty_iff] at h
 exact h
theorem lit_none {vk vi : Int} {vs : S} (h : validV vk vi vs = false) : litL vk vi vs = [] := by unfold litL; rw [h]; rfl
def NumRel (N : Nat) (n s : Value) : Prop := ∃ (k : Nat) (t : S), n = .int .i64 (k : Int) /\ s = .string ⟨t.toArray⟩ /\ Lib.decDigits N = Lib.decDigits k ++ t
theorem dig_ext : ∀ d : Nat, d < 10 -> (ByteArray.mk #[48, 49, 50, 51, 52, 53, 54, 55, 56, 57]).extract d (d + 1) = ⟨#[UInt8.ofNat (48 + d)]⟩ := by decide +kernel
theorem dec_small {k : Nat} (h : k < 10) : Lib.decDigits k = [UInt8.ofNat (48 + k)] := by rw [Lib.decDigits, dif_pos h]
theorem dec_big {k : Nat} (h : ¬ k < 10) : Lib.decDigits k = Lib.decDigits (k / 10) ++ [UInt8.ofNat (48 + k % 10)] := by rw [Lib.decDigits, dif_neg h]
theorem dig_cat (d : Nat) (hd : d < 10) (t : S) : (ByteArray.mk #[48, 49, 50, 51, 52, 53, 54, 55, 56, 57]).extract d (d + 1) ++ ByteArray.mk t.toArray = ⟨(UInt8.ofNat (48 + d) :: t).toArray⟩ := by
 rw [dig_ext d hd]
 apply bytes_ext
 simp [ByteArray.data_append]
theorem num_call (N : Nat) (hN : N <= 1125899906842624) (w : World) : Calls Tryz.prog 247 #[.int .i64 (N : Int)] w (Ret w (.string ⟨(Lib.decDigits N).toArray⟩)) := by
 have hlen : ∀ (k : Nat) (t : S), Lib.decDigits N = Lib.decDigits k ++ t -> t.length <= 17 := fun k t e => by
  have h1 := congrArg List.length e
  rw [List.length_append] at h1
  have := dec_len17 hN
  omega
 have HLN := h_ hlen
 clear hlen
 go_enter Tryz.func247, Tryz.ntmps247
 go_wp2_with fail
 go_loop [0, 3] (fun n s => ∃ (k : Nat), k <= N /\ n = .int .i64 (k : Int) /\ NumRel N n s) (fun n _ => (intOf n).toNat)
 case atStart => exact ⟨N, Nat.le_refl _, rfl, N, [], rfl, rfl, by simp⟩
 case round =>
  obtain ⟨k, hk, rfl, k', t, hkk, rfl, he⟩ := hrel
  obtain rfl : k' = k := by injection hkk with _ h; omega
  have ht := HLN.out _ _ he
  have HEQ := h_ he
  clear hkk he
  by_cases h9 : k' < 10
  ·have e9 : ¬ (9 : Int) < (k' : Int) := by omega
   have e0 : (0 : Int) <= (k' : Int) := by omega
   have e1 : (k' : Int) <= 9 := by omega
   go_wp2_with fail
   go_ret
   exact ⟨congrArg (fun z => Ending.returned (.string z)) (by rw [dig_cat k' h9, HEQ.out, dec_small h9]; rfl), Below.refl _ _⟩
  ·have e9 : (9 : Int) < (k' : Int) := by omega
   go_wp2_with fail
   refine ⟨⟨k' / 10, by omega, congrArg (fun z => Value.int .i64 z) (by omega), k' / 10, UInt8.ofNat (48 + k' % 10) :: t, congrArg (fun z => Value.int .i64 z) (by omega), congrArg Value.string (dig_cat (k' % 10) (by omega) t), ?_⟩, ?_⟩
   ·rw [HEQ.out, dec_big h9, List.append_assoc]
    rfl
   ·simp [intOf]
    omega
theorem cat_mk (x y : S) : ByteArray.mk x.toArray ++ ByteArray.mk y.toArray = ⟨(x ++ y).toArray⟩ := by
 apply bytes_ext
 simp [ByteArray.data_append]
theorem ext_one {s : ByteArray} {k : Nat} (h : k < s.size) : s.extract k (k + 1) = ⟨[s[k]].toArray⟩ := by
 apply bytes_ext
 rw [ByteArray.data_extract, Array.toList_extract]
 have h' : k < s.data.toList.length := by simpa using h
 simp only [List.extract_eq_take_drop]
 rw [show k + 1 - k = 1 by omega, List.drop_eq_getElem_cons h']
 rfl
theorem takeS (s : ByteArray) (k : Nat) (h : k < s.size) : s.data.toList.take (k + 1) = s.data.toList.take k ++ [s[k]] := by
 rw [List.take_succ_eq_append_getElem (by simpa using h)]; rfl
theorem number_neg (m : Nat) (hm : m <= 1125899906842624) (h0 : 1 <= m) (w : World) : Calls Tryz.prog 179 #[.int .i64 (-(m : Int))] w (Ret w (.string ⟨(45 :: Lib.decDigits m).toArray⟩)) := by
 by_cases h10 : m < 10
 ·have c1 : -(m : Int) < 0 := by omega
  have c2 : (-10 : Int) < -(m : Int) := by omega
  have hl := dec_len17 hm
  have HC := h_ (num_call m hm w)
  generalize Lib.decDigits m = D at HC hl
  have y2 : ¬ maxLen < 1 + D.length := by unfold maxLen; omega
  go_enter Tryz.func179, Tryz.ntmps179
  go_wp2_with fail
  refine HC.out.mono ?_
  rintro e w1 ⟨rfl, hb⟩
  go_wp2_with fail
  go_ret
  exact ⟨congrArg (fun z => Ending.returned (.string z)) (cat_mk [45] D), hb⟩
 ·have c1 : -(m : Int) < 0 := by omega
  have c2 : ¬ (-10 : Int) < -(m : Int) := by omega
  have hc := num_call (m / 10) (by omega) w
  rw [show ((m / 10 : Nat) : Int) = (m : Int) / 10 by omega] at hc
  have hc2 := fun w' => num_call (m % 10) (by omega) w'
  simp only [show ((m % 10 : Nat) : Int) = (m : Int) % 10 by omega] at hc2
  have HD : Hid (Lib.decDigits m = Lib.decDigits (m / 10) ++ Lib.decDigits (m % 10)) := h_ (by rw [dec_big h10, dec_small (k := m % 10) (by omega)])
  have hl := dec_len17 (n := m / 10) (by omega)
  have hl2 := dec_len17 (n := m % 10) (by omega)
  have HC := h_ hc
  have HC2 := h_ hc2
  clear hc hc2
  generalize Lib.decDigits (m / 10) = D at HC hl HD
  generalize Lib.decDigits (m % 10) = D2 at HC2 hl2 HD
  have y2 : ¬ maxLen < 1 + D.length := by unfold maxLen; omega
  have y3 : ¬ maxLen < 1 + D.length + D2.length := by unfold maxLen; omega
  go_enter Tryz.func179, Tryz.ntmps179
  go_wp2_with fail
  refine HC.out.mono ?_
  rintro e w1 ⟨rfl, hb⟩
  have HB := h_ hb
  clear hb
  go_wp2_with fail
  refine (HC2.out w1).mono ?_
  rintro e w2 ⟨rfl, hb2⟩
  have HB2 := t_ HB hb2
  clear hb2
  go_wp2_with fail
  go_ret
  exact ⟨congrArg (fun z => Ending.returned (.string z)) (by rw [HD.out]; exact (congrArg (· ++ _) (cat_mk [45] D)).trans (cat_mk (45 :: D) D2)), HB2.out⟩
theorem number_at (n : Int) (w : World) (h0 : -maxN <= n) (h1 : n <= maxN) : Calls Tryz.prog 179 #[.int .i64 n] w (Ret w (.string ⟨(itoaL n).toArray⟩)) := by
 unfold maxN at h0 h1
 by_cases hn : n < 0
 ·obtain ⟨m, hm⟩ : ∃ m : Nat, n = -(m : Int) := ⟨n.natAbs, by omega⟩
  subst hm
  have e : itoaL (-(m : Int)) = 45 :: Lib.decDigits m := by
   unfold itoaL Lib.itoa
   rw [if_pos hn]
   simp
  rw [e]
  exact number_neg m (by omega) (by omega) w
 ·obtain ⟨m, rfl⟩ := Int.eq_ofNat_of_zero_le (by omega : 0 <= n)
  have e : itoaL (m : Int) = Lib.decDigits m := by
   unfold itoaL Lib.itoa
   rw [if_neg hn]
   rfl
  have c1 : ¬ (m : Int) < 0 := hn
  have HC := h_ (num_call m (by omega) w)
  rw [e]
  generalize Lib.decDigits m = D at HC
  go_enter Tryz.func179, Tryz.ntmps179
  go_wp2_with fail
  refine HC.out.mono ?_
  rintro e w1 ⟨rfl, hb⟩
  go_wp2_with fail
  go_ret
  exact ⟨rfl, hb⟩
theorem quote_snoc (l : S) (c : UInt8) : quoteBody (l ++ [c]) = quoteBody l ++ quoteC c := by simp [quoteBody]
def QuRel (s : ByteArray) (v i : Value) : Prop := ∃ k : Nat, k <= s.size /\ i = .int .i64 k /\ v = .string ⟨(39 :: quoteBody (s.data.toList.take k)).toArray⟩
theorem rquote_any (s : ByteArray) (w : World) (hs : s.size <= 1000) : Calls Tryz.prog 180 #[.string s] w (Ret w (.string ⟨(quoteL s.data.toList).toArray⟩)) := by
 go_enter Tryz.func180, Tryz.ntmps180
 go_wp2_with fail
 go_loop [3, 4] (fun v i => QuRel s v i) (fun _ i => s.size - (intOf i).toNat)
 case atStart => exact ⟨0, Nat.zero_le _, rfl, rfl⟩
 case round =>
  obtain ⟨k, hk, rfl, rfl⟩ := hrel
  have hql := quote_len (s.data.toList.take k)
  have hq2 : (quoteBody (s.data.toList.take k)).length <= 2000 := by
   have : (s.data.toList.take k).length <= s.size := by rw [List.length_take, size_list]; omega
   omega
  clear hql
  by_cases hlt : k < s.size
  ·have HS := h_ (show quoteBody (s.data.toList.take (k + 1)) = quoteBody (s.data.toList.take k) ++ quoteC s[k] by rw [takeS s k hlt, quote_snoc])
   have HX := h_ (ext_one hlt)
   generalize quoteBody (s.data.toList.take k) = y at HS hq2
   by_cases hc : s[k] = 39
   ·have hc2 : (s[k].toNat : Int) = 39 := by rw [hc]; rfl
    have HC := h_ hc
    clear hc
    go_wp2_with fail
    refine ⟨⟨k + 1, by omega, by go_num, congrArg Value.string ?_⟩, by simp [intOf]; omega⟩
    rw [HS.out, HX.out, HC.out]
    exact (congrArg (· ++ _) (cat_mk (39 :: y) [39])).trans ((cat_mk _ [39]).trans (by simp [quoteC]))
   ·have hc2 : ¬ (s[k].toNat : Int) = 39 := fun e => hc (UInt8.toNat_inj.1 (by show s[k].toNat = 39; omega))
    have HC := h_ hc
    clear hc
    go_wp2_with fail
    refine ⟨⟨k + 1, by omega, by go_num, congrArg Value.string ?_⟩, by simp [intOf]; omega⟩
    rw [HS.out, HX.out]
    refine (cat_mk (39 :: y) [s[k]]).trans ?_
    have e : quoteC s[k] = [s[k]] := by unfold quoteC; rw [if_neg HC.out]
    rw [e]
    rfl
  ·obtain rfl : k = s.size := by omega
   have HT : Hid (s.data.toList.take s.size = s.data.toList) := h_ (List.take_of_length_le (by simp))
   go_wp2_with fail
   go_ret
   exact ⟨congrArg (fun z => Ending.returned (.string z)) (by rw [HT.out]; exact cat_mk (39 :: quoteBody s.data.toList) [39]), Below.refl _ _⟩
theorem rquote_at (x : S) (w : World) (hx : x.length <= 1000) : Calls Tryz.prog 180 #[.string ⟨x.toArray⟩] w (Ret w (.string ⟨(quoteL x).toArray⟩)) := by
 have := rquote_any ⟨x.toArray⟩ w (by rw [mkS]; exact hx)
 rwa [mkL] at this
theorem rliteral_call (vk vi : Int) (vs : S) (w : World) (hs : vs.length <= 140737488351232) : Calls Tryz.prog 99 #[.agg #[.int .i64 vk, .int .i64 vi, .string ⟨vs.toArray⟩]] w (Ret w (.string ⟨(litL vk vi vs).toArray⟩)) := by
 have HS := h_ hs
 have hem0 : (ByteArray.mk ([] : S).toArray).toList.isEmpty = true := mkE []
 clear hs
 go_enter Tryz.func99, Tryz.ntmps99
 go_upto_region 1 with (fail)
 refine nA fun w1 hB hw1 hz1 => ?_
 obtain ⟨p0, p1, p2⟩ := hB.c3
 have HW := h_ hw1
 have HBk := h_ hB
 clear hB hw1
 go_wp2_with fail
 refine (rvalid_call vk vi vs w1 HS.out).mono ?_
 rintro e w2 ⟨rfl, hw12⟩
 clear p0 p1 p2
 have hB2 := HBk.out.below hw12
 have hw2 := HW.out.trans (hw12.mono HW.out.size)
 clear hw12
 obtain ⟨p0, p1, p2⟩ := hB2.c3
 have HW2 := h_ hw2
 have HB2 := h_ hB2
 clear hw2 hB2 HBk HW
 cases hv : validV vk vi vs with
 | false =>
  have HL := h_ (lit_none hv)
  clear hv
  go_wp2_with fail
  go_ret
  exact ⟨by rw [HL.out]; rfl, HW2.out⟩
 | true =>
  by_cases k1 : vk = 1
  ·subst k1
   obtain ⟨l1, l2, l3⟩ := lit_int hv
   have HL := h_ l1
   have HM := h_ (And.intro l2 l3)
   clear hv l1 l2 l3
   go_wp2_with fail
   refine (null_call w2).mono ?_
   rintro e w3 ⟨rfl, hw3⟩
   have HW3 := t_ HW2 hw3
   have HB3 := h_ (HB2.out.below hw3)
   clear hw3 p0 p1 p2
   go_wp2_with fail
   refine (true_call w3).mono ?_
   rintro e w4 ⟨rfl, hw4⟩
   have HW4 := t_ HW3 hw4
   have HB4 := h_ (HB3.out.below hw4)
   clear hw4
   go_wp2_with fail
   refine (false_call w4).mono ?_
   rintro e w5 ⟨rfl, hw5⟩
   have HW5 := t_ HW4 hw5
   have HB5 := HB4.out.below hw5
   clear hw5
   have p0 := HB5.cell 0 rfl
   have p1 := HB5.cell 1 rfl
   clear HB5
   go_wp2_with fail
   refine (Ret.at_ (number_at vi w5 HM.out.1 HM.out.2) HW5.out).mono ?_
   rintro e w6 ⟨rfl, hw6⟩
   go_wp2_with fail
   go_ret
   exact ⟨by rw [HL.out]; rfl, hw6⟩
  ·by_cases k2 : vk = 2
   ·subst k2
    obtain ⟨l1, l2⟩ := lit_text hv
    have HL := h_ l1
    have HR := h_ fun w => rquote_at vs w (by omega)
    clear hv l1
    go_wp2_with fail
    refine (null_call w2).mono ?_
    rintro e w3 ⟨rfl, hw3⟩
    have HW3 := t_ HW2 hw3
    have HB3 := h_ (HB2.out.below hw3)
    clear hw3 p0 p1 p2
    go_wp2_with fail
    refine (true_call w3).mono ?_
    rintro e w4 ⟨rfl, hw4⟩
    have HW4 := t_ HW3 hw4
    have HB4 := h_ (HB3.out.below hw4)
    clear hw4
    go_wp2_with fail
    refine (false_call w4).mono ?_
    rintro e w5 ⟨rfl, hw5⟩
    have HW5 := t_ HW4 hw5
    have HB5 := HB4.out.below hw5
    clear hw5
    have p0 := HB5.cell 0 rfl
    have p2 := HB5.cell 2 rfl
    clear HB5
    go_wp2_with fail
    refine (Ret.at_ (HR.out w5) HW5.out).mono ?_
    rintro e w6 ⟨rfl, hw6⟩
    go_wp2_with fail
    go_ret
    exact ⟨by rw [HL.out]; rfl, hw6⟩
   ·by_cases k3 : vk = 3
    ·subst k3
     obtain ⟨l1, rfl, hvi⟩ := lit_bool hv
     rcases hvi with rfl | rfl
     ·have HL := h_ l1
      clear hv l1
      go_wp2_with fail
      refine (null_call w2).mono ?_
      rintro e w3 ⟨rfl, hw3⟩
      have HW3 := t_ HW2 hw3
      clear hw3 p0 p1 p2
      go_wp2_with fail
      refine (true_call w3).mono ?_
      rintro e w4 ⟨rfl, hw4⟩
      have HW4 := t_ HW3 hw4
      clear hw4
      go_wp2_with fail
      refine (false_call w4).mono ?_
      rintro e w5 ⟨rfl, hw5⟩
      have HW5 := t_ HW4 hw5
      clear hw5
      go_wp2_with fail
      go_ret
      exact ⟨by rw [HL.out]; rfl, HW5.out⟩
     ·have HL := h_ l1
      clear hv l1
      go_wp2_with fail
      refine (null_call w2).mono ?_
      rintro e w3 ⟨rfl, hw3⟩
      have HW3 := t_ HW2 hw3
      clear hw3 p0 p1 p2
      go_wp2_with fail
      refine (true_call w3).mono ?_
      rintro e w4 ⟨rfl, hw4⟩
      have HW4 := t_ HW3 hw4
      clear hw4
      go_wp2_with fail
      go_ret
      exact ⟨by rw [HL.out]; rfl, HW4.out⟩
    ·obtain ⟨l1, rfl, rfl, rfl⟩ := lit_kind hv k1 k2 k3
     have HL := h_ l1
     clear hv l1
     go_wp2_with fail
     refine (null_call w2).mono ?_
     rintro e w3 ⟨rfl, hw3⟩
     have HW3 := t_ HW2 hw3
     clear hw3 p0 p1 p2
     go_wp2_with fail
     go_ret
     exact ⟨by rw [HL.out]; rfl, HW3.out⟩
end Go.Proofs.YtnlimlboedohgaaGreatDoor.Px
