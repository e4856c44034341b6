import Derived.Test.YtlimlmjljjmcpaaGreatDoorProg
import Derived.MapKept
import Derived.WalkKit
import Derived.WalkSmall
import Derived.Below
import Derived.Test.YtlimlmjljjmcpaaGreatDoorPxBase
import Derived.Test.YtlimlmjljjmcpaaGreatDoorLnA
import Derived.Test.YtlimlmjljjmcpaaGreatDoorLbEnv
import Derived.Test.YtlimlmjljjmcpaaGreatDoorShelf4
/-
  A map of integers to texts that the call itself makes: an entry is put in, and looked up.
-/
namespace Go.Proofs.YtlimlmjljjmcpaaGreatDoor.Px
open Go Go.RowKit Go.MapKept
set_option linter.unusedVariables false
set_option linter.unusedSimpArgs false
def ents : Nat → List (Int × ByteArray) → List MapEntry
  | _, [] => []
  | i, (k, s) :: l => ⟨.int .i64 k, .string s, i⟩ :: ents (i + 1) l
def findP (k : Int) : List (Int × ByteArray) → Nat → Option (Nat × Value)
  | [], _ => none
  | (a, s) :: l, j => if k = a then some (j, .string s) else findP k l (j + 1)
def lookP (k : Int) (l : List (Int × ByteArray)) : Value := match findP k l 0 with | some x => x.2 | none => .string ⟨#[]⟩
theorem find_ents (q : IntKind) (k : Int) : ∀ (l : List (Int × ByteArray)) (i j : Nat), Instr.findNow (.int q) (.int .i64 k) (ents i l) j = some (findP k l j)
  | [], _, _ => rfl
  | (a, s) :: l, i, j => by
    unfold ents findP Instr.findNow
    by_cases h : k = a
    · subst h
      simp [Instr.sameNow]
    · have e : (k == a) = false := by simpa using h
      simp [Instr.sameNow, e, h, find_ents q k l]
theorem ents_snoc (k : Int) (s : ByteArray) : ∀ (l : List (Int × ByteArray)) (i : Nat), ents i (l ++ [(k, s)]) = ents i l ++ [⟨.int .i64 k, .string s, i + l.length⟩]
  | [], _ => rfl
  | (a, t) :: l, i => by
    rw [List.cons_append, ents, ents, ents_snoc k s l, List.length_cons, List.cons_append, show i + 1 + l.length = i + (l.length + 1) by omega]
structure MapAt (w0 w : World) (b : Nat) (l : List (Int × ByteArray)) : Prop where
  obj : w.heap[b]? = some (.map (ents 0 l).toArray l.length)
  bel : Below w0.heap.size w0 w
  old : w0.heap.size ≤ b
theorem map_made (w0 : World) : MapAt w0 (w0.alloc (.map #[] 0)) w0.heap.size [] :=
  ⟨heap_alloc_new w0 _, (Below.refl _ _).alloc (Nat.le_refl _) _, Nat.le_refl _⟩
section
variable {ops : Array Oper} {rest : List Oper} {o : Oper} {a : Act} {Q : Exit → Act → World → Prop} {w0 w : World} {b : Nat} {l : List (Int × ByteArray)}
theorem wp_insert (hg : o.guard = none) (m : Operand) (k : Int) (s : ByteArray) (hop : o.op = Op.insert 162 m (.const (.int .i64 k)) (.const (.string s))) (hm : a.eval m = .map (some b)) (h : MapAt w0 w b l) (hn : findP k l 0 = none)
    (hK : ∀ w', MapAt w0 w' b (l ++ [(k, s)]) → wpList Tryz.prog ops Q rest (a.put o.dst undef) w') : wpList Tryz.prog ops Q (o :: rest) a w := by
  refine wpList_plain hg fun K' hK' => ?_
  have hk : IsKey (.int .i64) (.int .i64 k) := by simp [IsKey]
  have hf := find_ents .i64 k l 0 0
  rw [hn] at hf
  have hrun : (Instr.mapUpdate 162 (.map (some b)) (.int .i64 k) (.string s)).run Tryz.prog w = .ok () { w with heap := w.heap.setIfInBounds b (.map (ents 0 (l ++ [(k, s)])).toArray (l ++ [(k, s)]).length) } := by
    have hf' : Instr.findNow (.int .i64) (.int .i64 k) (ents 0 l).toArray.toList 0 = some none := hf
    simp [Instr.mapUpdate, run_underlying Tryz.underlying162, MapKept.run_getObj_map h.obj, run_checkKey Tryz.underlying3 hk, run_findKey Tryz.underlying3 hf, run_setObj_map _ h.obj, Result.andThen, ents_snoc]
  unfold Oper.wp
  have e1 : a.eval (.const (.int .i64 k)) = .int .i64 k := rfl
  have e2 : a.eval (.const (.string s)) = .string s := rfl
  simp only [execOp, hop, hm, e1, e2]
  simp [hrun, Result.andThen]
  have hlt : b < w.heap.size := (Array.getElem?_eq_some_iff.1 h.obj).1
  refine hK' _ _ (hK _ ⟨?_, ⟨h.bel.os, h.bel.tape, h.bel.output, by simpa using h.bel.size, fun i hi => ?_⟩, h.old⟩)
  · simp [hlt]
  · have := h.old
    rw [← h.bel.block i hi]
    show (w.heap.setIfInBounds b _)[i]? = _
    rw [Array.getElem?_setIfInBounds_ne (by omega)]
theorem wp_look (hg : o.guard = none) (m x : Operand) (k : Int) (hop : o.op = Op.lookup 162 m x false) (hm : a.eval m = .map (some b)) (hx : a.eval x = .int .i64 k) (h : MapAt w0 w b l) (r : Value)
    (hat : lookP k l = r) (hK : wpList Tryz.prog ops Q rest (a.put o.dst r) w) : wpList Tryz.prog ops Q (o :: rest) a w := by
  refine wpList_plain hg fun K' hK' => ?_
  have hk : IsKey (.int .i64) (.int .i64 k) := by simp [IsKey]
  have hz : (zeroValue 9).run Tryz.prog w = .ok (.string ⟨#[]⟩) w := by kernel_rfl
  have hf := find_ents .i64 k l 0 0
  have hrun : (Instr.lookup 162 (.map (some b)) (.int .i64 k) false).run Tryz.prog w = .ok (lookP k l) w := by
    unfold lookP
    cases he : findP k l 0 with
    | none =>
      rw [he] at hf
      simp [Instr.lookup, run_underlying Tryz.underlying162, MapKept.run_getObj_map h.obj, run_checkKey Tryz.underlying3 hk, run_findKey Tryz.underlying3 hf, hz, Result.andThen]
    | some x =>
      rw [he] at hf
      simp [Instr.lookup, run_underlying Tryz.underlying162, MapKept.run_getObj_map h.obj, run_checkKey Tryz.underlying3 hk, run_findKey Tryz.underlying3 hf, Result.andThen]
  rw [hat] at hrun
  unfold Oper.wp
  simp only [execOp, hop, hm, hx]
  simp [hrun, Result.andThen]
  exact hK' _ _ hK
end
end Go.Proofs.YtlimlmjljjmcpaaGreatDoor.Px

/-
  Small functions over expressions: levels, numbers of arguments, symbols, keywords of bounds and of relations, the program's and the reference's. (Printed by gen_pxsm.py.)
-/
namespace Go.Proofs.YtlimlmjljjmcpaaGreatDoor.Px
open Go Go.RowKit Go.Proofs.YtlimlmjljjmcpaaGreatDoor.Ps
set_option linter.unusedVariables false
set_option linter.unusedSimpArgs false
set_option maxRecDepth 100000 in
set_option maxHeartbeats 4000000 in
theorem number_call {x : X} {cs : List Value} {w : World} (h : XR w x cs) : Calls Tryz.prog 68 #[.agg cs.toArray] w (Ret w (.bool (number x))) := by
  obtain ⟨op, int, vk, vi, vs, nm, l⟩ := x
  obtain ⟨a, m, rfl, _⟩ := h.lits
  clear h
  go_enter Tryz.func68, Tryz.ntmps68
  go_upto_region 1 with (fail)
  refine name_alloc (K := Code.wp _ _ _ _) fun w1 hB hw1 hz1 => ?_
  have p0 := hB.cell 0 rfl
  have p2 := hB.cell 2 rfl
  have HW := Lib.hid hw1
  have HBk := Lib.hid hB
  clear hB hw1
  go_wp2_with fail
  all_goals (go_ret; refine ⟨congrArg (fun z => Ending.returned (.bool z)) ?_, HW.out⟩; simp_all [number, X.op, X.vk] <;> rfl)
set_option maxRecDepth 100000 in
set_option maxHeartbeats 4000000 in
theorem level_call {x : X} {cs : List Value} {w : World} (h : XR w x cs) : Calls Tryz.prog 71 #[.agg cs.toArray] w (Ret w (.int .i64 (level x))) := by
  have HX := Lib.hid h
  obtain ⟨op, int, vk, vi, vs, nm, l⟩ := x
  obtain ⟨a, m, rfl, _⟩ := h.lits
  have hl : level (.mk op int vk vi vs nm l) = levelOf op vk vi := rfl
  rw [hl]
  clear h hl
  go_enter Tryz.func71, Tryz.ntmps71
  go_upto_region 1 with (fail)
  refine name_alloc (K := Code.wp _ _ _ _) fun w1 hB hw1 hz1 => ?_
  have p0 := hB.cell 0 rfl
  have p1 := hB.cell 1 rfl
  have p2 := hB.cell 2 rfl
  have p3 := hB.cell 3 rfl
  have p4 := hB.cell 4 rfl
  have p5 := hB.cell 5 rfl
  have p6 := hB.cell 6 rfl
  have HW := Lib.hid hw1
  have HBk := Lib.hid hB
  clear hB hw1
  have CN := Lib.hid (number_call (HX.out.kept HW.out (Nat.le_refl _)))
  have hn : number (.mk op int vk vi vs nm l) = (decide (op = 1) && decide (vk = 1)) := rfl
  rw [hn] at CN
  clear hn
  go_wp2_with fail
  all_goals (try (refine CN.out.mono ?_; rintro e w2 ⟨rfl, hw2⟩; have HW2 := Lib.hid (HW.out.trans (hw2.mono HW.out.size)); have q3 := (HBk.out.below hw2).cell 3 rfl; clear hw2; by_cases hk : vk = 1 <;> by_cases hi : vi < 0 <;> simp only [hk, hi, decide_true, decide_false, Bool.and_true, Bool.and_false] <;> go_wp2_with fail))
  all_goals (go_ret; first | (refine ⟨congrArg (fun z => Ending.returned (.int .i64 z)) ?_, HW.out⟩; unfold levelOf; simp_all) | (refine ⟨congrArg (fun z => Ending.returned (.int .i64 z)) ?_, HW2.out⟩; unfold levelOf; simp_all))
set_option maxRecDepth 100000 in
set_option maxHeartbeats 4000000 in
theorem rlevel_call {x : X} {cs : List Value} {w : World} (h : XR w x cs) : Calls Tryz.prog 80 #[.agg cs.toArray] w (Ret w (.int .i64 (level x))) := by
  obtain ⟨op, int, vk, vi, vs, nm, l⟩ := x
  obtain ⟨a, m, rfl, _⟩ := h.lits
  have hl : level (.mk op int vk vi vs nm l) = levelOf op vk vi := rfl
  rw [hl]
  clear h hl
  go_enter Tryz.func80, Tryz.ntmps80
  go_upto_region 1 with (fail)
  refine name_alloc (K := Code.wp _ _ _ _) fun w1 hB hw1 hz1 => ?_
  have p0 := hB.cell 0 rfl
  have p2 := hB.cell 2 rfl
  have p3 := hB.cell 3 rfl
  have HW := Lib.hid hw1
  have HBk := Lib.hid hB
  clear hB hw1
  go_wp2_with fail
  all_goals (go_ret; refine ⟨congrArg (fun z => Ending.returned (.int .i64 z)) ?_, HW.out⟩; unfold levelOf; simp_all)
set_option maxRecDepth 100000 in
set_option maxHeartbeats 4000000 in
theorem arguments_call (op : Int) (n : Nat) (w : World) : Calls Tryz.prog 60 #[.int .i64 op, .int .i64 (n : Int)] w (Ret w (.bool (argsB op n))) := by
  go_enter Tryz.func60, Tryz.ntmps60
  go_wp2_with fail
  all_goals (go_ret; refine ⟨congrArg (fun z => Ending.returned (.bool z)) ?_, Below.refl _ _⟩; unfold argsB; simp_all <;> first | omega | rfl | (rw [Bool.eq_iff_iff]; simp <;> omega))
set_option maxRecDepth 100000 in
set_option maxHeartbeats 4000000 in
theorem arity_call (op : Int) (w : World) : Calls Tryz.prog 241 #[.int .i64 op] w (Ret w (.tuple #[.int .i64 (arity op).1, .int .i64 (arity op).2])) := by
  go_enter Tryz.func241, Tryz.ntmps241
  go_wp2_with fail
  all_goals (go_ret2; refine ⟨congrArg (fun z : Int × Int => Ending.returned (.tuple #[.int .i64 z.1, .int .i64 z.2])) (?_ : (_, _) = arity op), Below.refl _ _⟩; unfold arity; simp_all)
set_option maxRecDepth 100000 in
set_option maxHeartbeats 4000000 in
theorem rsign_call (op : Int) (w : World) (h : op ≠ 5 ∧ op ≠ 6 ∧ op ≠ 20 ∧ op ≠ 22 ∧ op ≠ 23) : Calls Tryz.prog 81 #[.int .i64 op] w (Ret w (.string ⟨(signL op).toArray⟩)) := by
  obtain ⟨h1, h2, h3, h4, h5⟩ := h
  go_enter Tryz.func81, Tryz.ntmps81
  go_wp2_with fail
  all_goals (go_ret; refine ⟨congrArg (fun z => Ending.returned (.string z)) ?_, Below.refl _ _⟩; unfold signL; simp_all)
def signM : List (Int × ByteArray) := [(6, ⟨#[79, 82]⟩), (5, ⟨#[65, 78, 68]⟩), (7, ⟨#[61]⟩), (8, ⟨#[60, 62]⟩), (9, ⟨#[60]⟩), (10, ⟨#[60, 61]⟩), (11, ⟨#[62]⟩), (12, ⟨#[62, 61]⟩), (13, ⟨#[43]⟩), (14, ⟨#[45]⟩), (19, ⟨#[124, 124]⟩), (15, ⟨#[42]⟩), (16, ⟨#[47]⟩), (17, ⟨#[37]⟩), (22, ⟨#[73, 70]⟩), (23, ⟨#[67, 79, 65, 76, 69, 83, 67, 69]⟩), (20, ⟨#[76, 69, 78, 71, 84, 72]⟩)]
theorem sign_look (n : Int) : lookP n signM = .string ⟨(signL n).toArray⟩ := by
  unfold signL signM lookP
  by_cases h5 : n = 5
  · subst h5; rfl
  by_cases h6 : n = 6
  · subst h6; rfl
  by_cases h7 : n = 7
  · subst h7; rfl
  by_cases h8 : n = 8
  · subst h8; rfl
  by_cases h9 : n = 9
  · subst h9; rfl
  by_cases h10 : n = 10
  · subst h10; rfl
  by_cases h11 : n = 11
  · subst h11; rfl
  by_cases h12 : n = 12
  · subst h12; rfl
  by_cases h13 : n = 13
  · subst h13; rfl
  by_cases h14 : n = 14
  · subst h14; rfl
  by_cases h15 : n = 15
  · subst h15; rfl
  by_cases h16 : n = 16
  · subst h16; rfl
  by_cases h17 : n = 17
  · subst h17; rfl
  by_cases h19 : n = 19
  · subst h19; rfl
  by_cases h20 : n = 20
  · subst h20; rfl
  by_cases h22 : n = 22
  · subst h22; rfl
  by_cases h23 : n = 23
  · subst h23; rfl
  simp only [findP, h6, h5, h7, h8, h9, h10, h11, h12, h13, h14, h19, h15, h16, h17, h22, h23, h20, if_false]
set_option maxRecDepth 100000 in
set_option maxHeartbeats 4000000 in
theorem sign_call (n : Int) (w : World) : Calls Tryz.prog 69 #[.int .i64 n] w (Ret w (.string ⟨(signL n).toArray⟩)) := by
  have hmm := @run_makeMap Tryz.prog
  have HL := Lib.hid (sign_look n)
  go_enter Tryz.func69, Tryz.ntmps69
  have HS := map_made w
  go_wp2_with (first | (refine op_met rfl (wp_insert rfl (.tmp 3) _ _ rfl rfl HS (by decide) ?_); clear HS; intro w2 HS) | (refine op_met rfl (wp_look rfl (.tmp 4) (.tmp 5) n rfl rfl rfl HS _ HL.out ?_)))
  go_ret
  exact ⟨rfl, HS.bel⟩
def boundM : List (Int × ByteArray) := [(0, ⟨#[86, 65, 76, 73, 68, 70, 82, 79, 77]⟩), (1, ⟨#[86, 65, 76, 73, 68, 84, 79]⟩), (2, ⟨#[83, 89, 83, 84, 69, 77, 70, 82, 79, 77]⟩), (3, ⟨#[83, 89, 83, 84, 69, 77, 84, 79]⟩), (4, ⟨#[84, 88]⟩)]
theorem bound_look (n : Int) : lookP n boundM = .string ⟨(boundL n).toArray⟩ := by
  unfold boundL boundM lookP
  by_cases h0 : n = 0
  · subst h0; rfl
  by_cases h1 : n = 1
  · subst h1; rfl
  by_cases h2 : n = 2
  · subst h2; rfl
  by_cases h3 : n = 3
  · subst h3; rfl
  by_cases h4 : n = 4
  · subst h4; rfl
  simp only [findP, h0, h1, h2, h3, h4, if_false]
set_option maxRecDepth 100000 in
set_option maxHeartbeats 4000000 in
theorem bound_call (n : Int) (w : World) : Calls Tryz.prog 64 #[.int .i64 n] w (Ret w (.string ⟨(boundL n).toArray⟩)) := by
  have hmm := @run_makeMap Tryz.prog
  have HL := Lib.hid (bound_look n)
  go_enter Tryz.func64, Tryz.ntmps64
  have HS := map_made w
  go_wp2_with (first | (refine op_met rfl (wp_insert rfl (.tmp 3) _ _ rfl rfl HS (by decide) ?_); clear HS; intro w2 HS) | (refine op_met rfl (wp_look rfl (.tmp 4) (.tmp 5) n rfl rfl rfl HS _ HL.out ?_)))
  go_ret
  exact ⟨rfl, HS.bel⟩
end Go.Proofs.YtlimlmjljjmcpaaGreatDoor.Px

/-
  Names of columns: the program's and the reference's words.
-/
namespace Go.Proofs.YtlimlmjljjmcpaaGreatDoor.Px
open Go Go.RowKit Go.Proofs.YtlimlmjljjmcpaaGreatDoor.Ps
set_option linter.unusedVariables false
set_option linter.unusedSimpArgs false
theorem mkL (l : S) : (ByteArray.mk l.toArray).data.toList = l := by simp
theorem mkS (l : S) : (ByteArray.mk l.toArray).size = l.length := by simp [ByteArray.size]
theorem env_at {w w1 : World} (h : Env w) (hb : Below w.heap.size w w1) : Env w1 := h.below hb
theorem dot_cons (b : UInt8) (l : S) : hasDot (b :: l) = (b == 46 || hasDot l) := by
  unfold hasDot
  rw [List.contains_cons]
  by_cases h : b = 46
  · subst h; rfl
  · have h2 : ¬ (46 : UInt8) = b := fun e => h e.symm
    have e1 : (b == 46) = false := by simpa using h
    have e2 : ((46 : UInt8) == b) = false := by simpa using h2
    rw [e1, e2]
theorem idx_dot : ∀ s : S, Lib.index s [46] = if hasDot s then ((preDot s).length : Int) else -1
  | [] => by simp [Lib.index, hasDot]
  | b :: l => by
    rw [dot_cons]
    by_cases h : b = 46
    · subst h
      simp [Lib.index, preDot]
    · have hp : ([46] : S).isPrefixOf (b :: l) = false := by simp [List.isPrefixOf]; exact fun e => h e.symm
      have hpre : preDot (b :: l) = b :: preDot l := by simp [preDot, h]
      have hb : (b == 46) = false := by simpa using h
      rw [hpre, hb, Bool.false_or]
      unfold Lib.index
      rw [hp, idx_dot l]
      cases hd : hasDot l with
      | false => simp
      | true => simp <;> omega
theorem pre_take (s : S) : s.take (preDot s).length = preDot s := by
  have h : preDot s <+: s := List.takeWhile_prefix _
  exact (List.prefix_iff_eq_take.1 h).symm
theorem cut_dot (s : S) : Lib.cut s [46] = if hasDot s then (preDot s, postDot s, true) else (s, [], false) := by
  unfold Lib.cut
  rw [idx_dot]
  cases hd : hasDot s with
  | false => simp
  | true =>
    simp only [if_true]
    rw [if_pos (by omega)]
    simp only [Int.toNat_natCast, pre_take]
    rfl
theorem name_at {s : S} {w : World} (h : Env w) : Calls Tryz.prog 139 #[.string ⟨s.toArray⟩] w (Ret w (.bool (nameB s))) := by
  have := name_call ⟨s.toArray⟩ w h.tab
  unfold NmPost at this
  rw [mkL] at this
  exact this
theorem rname_at (s : S) (w : World) : Calls Tryz.prog 130 #[.string ⟨s.toArray⟩] w (Ret w (.bool (nameB s))) := by
  have := name_ref13 ⟨s.toArray⟩ w
  unfold NmPost at this
  rw [mkL] at this
  exact this
set_option maxRecDepth 100000 in
set_option maxHeartbeats 4000000 in
theorem isName_call {s : S} {w : World} (h : Env w) : Calls Tryz.prog 61 #[.string ⟨s.toArray⟩] w (Ret w (.bool (nameB s))) := by
  have HC := Lib.hid (name_at (s := s) h)
  go_enter Tryz.func61, Tryz.ntmps61
  go_wp2_with fail
  refine HC.out.mono ?_
  rintro e w1 ⟨rfl, hb⟩
  go_wp2_with fail
  go_ret
  exact ⟨rfl, hb⟩
set_option maxRecDepth 100000 in
set_option maxHeartbeats 4000000 in
theorem reference_call {s : S} {w : World} (h : Env w) (hs : s.length < 4294967281) : Calls Tryz.prog 63 #[.string ⟨s.toArray⟩] w (Ret w (.bool (refB s))) := by
  obtain ⟨m, hm⟩ := h.maxl
  have CC := Tryz.strings_Cut ⟨s.toArray⟩ ⟨#[46]⟩ m w (by rw [mkS]; exact hs) hm
  have e46 : (ByteArray.mk #[46]).data.toList = [46] := rfl
  rw [mkL, e46, cut_dot] at CC
  have HE := Lib.hid h
  clear hm h
  cases hd : hasDot s with
  | false =>
    rw [hd] at CC
    simp only [Bool.false_eq_true, if_false] at CC
    have HC := Lib.hid CC
    have HR : Hid (refB s = nameB s) := Lib.hid (by unfold refB; rw [hd]; rfl)
    clear CC hd
    go_enter Tryz.func63, Tryz.ntmps63
    go_wp2_with fail
    refine HC.out.mono ?_
    rintro e w1 ⟨rfl, n, rfl⟩
    have hb0 : Below w.heap.size w (w.drewN n) := belowD w n
    have HN := Lib.hid ((isName_call (s := s) (HE.out.below hb0)).mono fun e w' h' => (⟨h'.1, hb0.trans (h'.2.mono hb0.size)⟩ : Ret w _ e w'))
    clear HC hb0
    go_wp2_with fail
    refine HN.out.mono ?_
    rintro e w1 ⟨rfl, hb1⟩
    have HB := Lib.hid hb1
    clear hb1
    cases hn : nameB s <;> go_wp2_with fail
    all_goals (go_ret; exact ⟨by rw [HR.out, hn]; rfl, HB.out⟩)
  | true =>
    rw [hd] at CC
    simp only [if_true] at CC
    have HC := Lib.hid CC
    have HR : Hid (refB s = (nameB (preDot s) && nameB (postDot s))) := Lib.hid (by unfold refB; rw [hd]; rfl)
    clear CC hd
    generalize preDot s = a at HC HR
    generalize postDot s = b at HC HR
    go_enter Tryz.func63, Tryz.ntmps63
    go_wp2_with fail
    refine HC.out.mono ?_
    rintro e w1 ⟨rfl, n, rfl⟩
    have hb0 : Below w.heap.size w (w.drewN n) := belowD w n
    have HN := Lib.hid ((isName_call (s := a) (HE.out.below hb0)).mono fun e w' h' => (⟨h'.1, hb0.trans (h'.2.mono hb0.size)⟩ : Ret w _ e w'))
    clear HC hb0
    go_wp2_with fail
    refine HN.out.mono ?_
    rintro e w1 ⟨rfl, hb1⟩
    have HB := Lib.hid hb1
    have HN2 := Lib.hid ((isName_call (s := b) (HE.out.below hb1)).mono fun e w' h' => (⟨h'.1, hb1.trans (h'.2.mono hb1.size)⟩ : Ret w _ e w'))
    clear hb1 HN
    cases hn : nameB a <;> go_wp2_with fail
    · go_ret
      exact ⟨by rw [HR.out, hn]; rfl, HB.out⟩
    · refine HN2.out.mono ?_
      rintro e w2 ⟨rfl, hb2⟩
      go_wp2_with fail
      go_ret
      exact ⟨by rw [HR.out, hn]; rfl, hb2⟩
/-! ### the reference -/
theorem dot_none {s : ByteArray} (h : ∀ j (hj : j < s.size), s[j] ≠ 46) : hasDot s.data.toList = false := by
  cases hd : hasDot s.data.toList with
  | false => rfl
  | true =>
    have hm : (46 : UInt8) ∈ s.data.toList := by unfold hasDot at hd; simpa using hd
    obtain ⟨j, hj, e⟩ := List.mem_iff_getElem.1 hm
    exact absurd e (h j (by simpa using hj))
theorem dot_first {s : ByteArray} {k : Nat} (hk : k < s.size) (hall : ∀ j (hj : j < s.size), j < k → s[j] ≠ 46) (hc : s[k] = 46) : hasDot s.data.toList = true ∧ (preDot s.data.toList).length = k := by
  have hk' : k < s.data.toList.length := by simpa using hk
  have hgen : ∀ (l : S) (k : Nat) (hk : k < l.length), (∀ j (hj : j < l.length), j < k → l[j] ≠ 46) → l[k] = 46 → hasDot l = true ∧ (preDot l).length = k := by
    intro l
    induction l with
    | nil => intro k hk; simp at hk
    | cons b l ih =>
      intro k hk hall hc
      rw [dot_cons]
      cases k with
      | zero =>
        have hb : b = 46 := hc
        subst hb
        exact ⟨rfl, by simp [preDot]⟩
      | succ k =>
        have hb : b ≠ 46 := hall 0 (by simp) (by omega)
        have := ih k (by simpa using hk) (fun j hj hjk => hall (j + 1) (by simpa using hj) (by omega)) (by simpa using hc)
        refine ⟨by rw [this.1]; simp, ?_⟩
        have hpre : preDot (b :: l) = b :: preDot l := by simp [preDot, hb]
        rw [hpre, List.length_cons, this.2]
  exact hgen _ k hk' (fun j hj hjk => hall j (by simpa using hj) hjk) hc
def PtRel (s : ByteArray) (i : Value) : Prop := ∃ k : Nat, k ≤ s.size ∧ i = .int .i64 k ∧ ∀ j (h : j < s.size), j < k → s[j] ≠ 46
def pointV (s : S) : Int := if hasDot s then ((preDot s).length : Int) else -1
theorem byte_ne {c : UInt8} (h : c ≠ 46) : ¬ (c.toNat : Int) = 46 := fun e => h (UInt8.toNat_inj.1 (by show c.toNat = 46; omega))
set_option maxRecDepth 100000 in
set_option maxHeartbeats 4000000 in
theorem point_any (s : ByteArray) (w : World) (hs : s.size ≤ 140737488351232) : Calls Tryz.prog 240 #[.string s] w (Ret w (.int .i64 (pointV s.data.toList))) := by
  go_enter Tryz.func240, Tryz.ntmps240
  go_wp2_with fail
  go_loop [3] (fun i => PtRel s i) (fun i => s.size - (intOf i).toNat)
  case atStart => exact ⟨0, Nat.zero_le _, rfl, fun j _ hj => absurd hj (by omega)⟩
  case round =>
    obtain ⟨k, hk, rfl, hi⟩ := hrel
    have HI := Lib.hid hi
    clear hi
    by_cases hlt : k < s.size
    · by_cases hc : s[k] = 46
      · have HD := Lib.hid (dot_first hlt HI.out hc)
        have hc2 : (s[k].toNat : Int) = 46 := by rw [hc]; rfl
        clear hc HI
        go_wp2_with fail
        go_ret
        exact ⟨by unfold pointV; rw [HD.out.1, HD.out.2]; rfl, Below.refl _ _⟩
      · have hc2 := byte_ne hc
        have HIN : Hid (∀ j (h : j < s.size), j < k + 1 → s[j] ≠ 46) := Lib.hid (fun j hj hjk => by
          by_cases e : j = k
          · subst e; exact hc
          · exact HI.out j hj (by omega))
        clear hc
        go_wp2_with fail
        go_round
        case rel => exact ⟨k + 1, by omega, by go_num, HIN.out⟩
        case measure => simp [intOf]; omega
    · obtain rfl : k = s.size := by omega
      have HD := Lib.hid (dot_none fun j hj => HI.out j hj hj)
      clear HI
      go_wp2_with fail
      go_ret
      exact ⟨by unfold pointV; rw [HD.out]; rfl, Below.refl _ _⟩
theorem point_call (s : S) (w : World) (hs : s.length ≤ 140737488351232) : Calls Tryz.prog 240 #[.string ⟨s.toArray⟩] w (Ret w (.int .i64 (pointV s))) := by
  have := point_any ⟨s.toArray⟩ w (by rw [mkS]; exact hs)
  rwa [mkL] at this
end Go.Proofs.YtlimlmjljjmcpaaGreatDoor.Px
