/-
  The law TxnEnds holds for every input: an ended transaction, and one that is nil, refuses everything. No condition beyond the listed variables' data (tied card).
-/
import Derived.Test.YtkicpmdojmnmeaaGreatDoorRows
import Derived.Test.YtkicpmdojmnmeaaGreatDoorCards
import Derived.Test.YtkicpmdojmnmeaaGreatDoorTie
import Derived.Test.YtkicpmdojmnmeaaGreatDoorTxRun
import Derived.Test.YtkicpmdojmnmeaaGreatDoorTxnF5
import Derived.Test.YtkicpmdojmnmeaaGreatDoorTxnF6
import Derived.ProofKit
import Derived.OpenShut
import Derived.LaidMore
import Derived.Lay
import Derived.SevenTiedAt
import Derived.Stop.Joined
import Derived.Stop.LaidErr
import Derived.ChangeOld
import Derived.Below
namespace Go.Proofs.YtkicpmdojmnmeaaGreatDoor.txnEnds
open Go.ChangeShapes Go.WideShapes Go.ChangeAt Go.RowKit
set_option linter.unusedVariables false

theorem own : ownKnob Tryz.prog.godebug = none := by kernel_rfl
theorem laidOut : laidOutB Tryz.prog = true := by kernel_rfl
theorem len34 {l : List Value} (h : l.length = 34) : l = (List.range 34).map (fun i => l.getD i (.tuple #[])) := by
  refine List.ext_getElem (by simp [h]) fun i h1 h2 => ?_
  simp [List.getD_eq_getElem?_getD, List.getElem?_eq_getElem h1]
/-- the arguments' cells, and what the kind is, by numbers -/
def envT (cs : List Value) (v1 k : Value) (i : Nat) : Value := if i < 34 then cs.getD i (.tuple #[]) else if i = 34 then v1 else k
theorem agg_head {g : Ax.Gm} {cs : List Value} {v1 k : Value} {r0 : Ax.RV} (hn : cs.length = 34) (h1 : ∀ u ∈ cs, u.cells = #[u]) (h2 : ∀ u ∈ cs, u.oneCell' = true) (h0 : Ax.R g (envT cs v1 k) r0 (cs.getD 0 (.tuple #[]))) :
    Ax.R g (envT cs v1 k) (.agg (r0 :: Ax.unk 1 33)) (.agg cs.toArray) := by
  refine .agg (by simp [Ax.unk, hn]) fun i k1 k2 => ?_
  have hi : i < cs.length := by simpa using k2
  cases i with
  | zero =>
    have e : cs.getD 0 (.tuple #[]) = cs[0] := by rw [List.getD_eq_getElem?_getD, List.getElem?_eq_getElem hi]; rfl
    rw [e] at h0
    simpa using h0
  | succ i =>
    have e1 : (r0 :: Ax.unk 1 33)[i + 1] = .opq (i + 1) := by simp [Ax.unk, Nat.add_comm]
    have e2 : envT cs v1 k (i + 1) = cs[i + 1] := by
      unfold envT
      rw [if_pos (by omega), List.getD_eq_getElem?_getD, List.getElem?_eq_getElem hi]
      rfl
    rw [e1]
    have e3 : cs.toArray[i + 1] = cs[i + 1] := by simp
    rw [e3, ← e2]
    exact .opq _ (by rw [e2]; exact h1 _ (List.getElem_mem _)) (by rw [e2]; exact h2 _ (List.getElem_mem _))
theorem walk (cs : List Value) (n : Int) (c : Ps.C) (w : World) (hr : Ps.Rp Tryz.prog w 44 cs c) :
    Calls Tryz.prog 3 #[.agg cs.toArray, .int .i64 n] w fun e w' => e = .returned (.bool true) ∧ Below w.heap.size w w' := by
  have hn : cs.length = 34 := by
    obtain ⟨ys, _, hn, _⟩ := hr.struct_inv Tryz.underlying44
    exact hn.trans cells_op
  have hs := hr.single
  have ho := hr.one
  obtain ⟨kd, hkd⟩ : ∃ kd : Int, cs.getD 0 (.tuple #[]) = .int .i64 kd := by
    obtain ⟨ys, _, _, hl, hx⟩ := hr.struct_inv Tryz.underlying44
    have h0 := hx 0 (by decide) (by rw [hl]; decide)
    simp only [cells_int, List.getElem_toArray, List.getElem_cons_zero, List.drop_zero] at h0
    obtain ⟨kd, e0, _⟩ := h0.int_inv Tryz.underlying3
    refine ⟨kd, ?_⟩
    cases cs with
    | nil => simp at hn
    | cons a l =>
      simp at e0
      simpa using e0
  have henv : ∀ k : Value, (List.range 34).map (envT cs (.int .i64 n) k) = cs := fun k => by
    refine (List.map_congr_left fun i hi => ?_).trans (len34 hn).symm
    have hi' : i < 34 := by simpa using hi
    unfold envT
    rw [if_pos hi']
  have hp : ∀ m : Int, (∀ j : Nat, j ≤ 9 → m ≠ (j : Int)) → Ax.EnvP (fun q => w.heap[q]?) (envT cs (.int .i64 n) (.int .i64 m)) := fun m hm => ⟨w, c, by rw [henv]; exact hr, trivial, ⟨m, rfl, hm⟩, fun q o hq => hq⟩
  have h34 : ∀ (g : Ax.Gm) (k : Value), Ax.R g (envT cs (.int .i64 n) k) (.opq 34) (.int .i64 n) := fun g k => .opq 34 rfl rfl
  have known : ∀ k : Nat, kd = (k : Int) → Ax.ends (.lit (.int .i64 (.ofNat k))) Ax.allO = true → Calls Tryz.prog 3 #[.agg cs.toArray, .int .i64 n] w fun e w' => e = .returned (.bool true) ∧ Below w.heap.size w w' := fun k hk he =>
    Ax.calls_true_q Ax.allO_ok he (envT cs (.int .i64 n) (.int .i64 (-1))) [.agg cs.toArray, .int .i64 n]
      (Ax.rl_cons (agg_head hn hs ho (by rw [hkd, hk]; exact .lit _)) (Ax.rl_cons (h34 _ _) Ax.rl_nil)) w (Ax.tabW_none w) (hp (-1) fun j hj => by omega)
  by_cases hk : ∀ j : Nat, j ≤ 9 → kd ≠ (j : Int)
  · refine Ax.calls_true_q Ax.lastO_ok Ax.endsN (envT cs (.int .i64 n) (.int .i64 kd)) [.agg cs.toArray, .int .i64 n]
      (Ax.rl_cons (agg_head hn hs ho (by rw [hkd]; exact .opq 35 rfl rfl)) (Ax.rl_cons (h34 _ _) Ax.rl_nil)) w (Ax.tabW_none w) (hp kd hk)
  · have : ∃ j : Nat, j ≤ 9 ∧ kd = (j : Int) := by
      refine Classical.byContradiction fun h => hk fun j hj he => h ⟨j, hj, he⟩
    obtain ⟨j, hj, he⟩ := this
    rcases j with _ | _ | _ | _ | _ | _ | _ | _ | _ | _ | j
    · exact known 0 he Ax.ends0
    · exact known 1 he Ax.ends1
    · exact known 2 he Ax.ends2
    · exact known 3 he Ax.ends3
    · exact known 4 he Ax.ends4
    · exact known 5 he Ax.ends5
    · exact known 6 he Ax.ends6
    · exact known 7 he Ax.ends7
    · exact known 8 he Ax.ends8
    · exact known 9 he Ax.ends9
    · omega
/-- the types that an operation is made of -/
def opTypes : List TypeId := [44, 3, 9, 4, 22, 112, 24, 27, 25, 29, 34, 30, 36, 31, 32, 168, 38, 42, 40]
theorem opTypes_plain : Ps.plainS Tryz.prog opTypes = true := by kernel_rfl

set_option maxRecDepth 100000 in
theorem lifted (os : Os) (started : os.Started) (H : Type) (enc : TypeId × Value → H) :
    ReturnsInHanded {} Tryz.checked os 3 .any (fun w args => (Rows.txnEndsSpec.pre enc Tryz.prog Tryz.f3 [] false w args ∧ laidMetH Tryz.prog Rows.txnEndsRow.laid w) ∧ sizedMet enc Tryz.prog Tryz.f3 (OpenSpec.ofChange Rows.txnEndsSpec) false w args)
      (Rows.txnEndsSpec.post enc Tryz.prog Tryz.f3 false true false false) := by
  refine returnsInHanded_of_change_and (C := Tryz.checked) (X := fun w _ => laidMetH Tryz.prog Rows.txnEndsRow.laid w) (fun _ _ _ hh h => h.of_heap hh) own started (by kernel_rfl) Tryz.func3
    (ChangeSpec.witness_shaped (enc := enc) (C := Tryz.checked) (os := os) (X := fun w _ => laidMetH Tryz.prog Rows.txnEndsRow.laid w) false (World.laidAll Tryz.prog os Rows.txnEndsRow.laid) #[.agg #[.int .i64 0, .string ⟨#[]⟩, .slice none 0 0, .int .i64 0, .int .i64 0, .int .i64 0, .int .i64 0, .string ⟨#[]⟩, .string ⟨#[]⟩, .slice none 0 0, .slice none 0 0, .int .i64 0, .int .i64 0, .string ⟨#[]⟩, .slice none 0 0, .slice none 0 0, .slice none 0 0, .slice none 0 0, .int .i64 0, .string ⟨#[]⟩, .string ⟨#[]⟩, .string ⟨#[]⟩, .int .i64 0, .bool false, .int .i64 0, .int .i64 0, .string ⟨#[]⟩, .string ⟨#[]⟩, .string ⟨#[]⟩, .int .i64 0, .int .i64 0, .int .i64 0, .int .i64 0, .int .i64 0], .int .i64 0] 8 (World.laidAll_os _ _ _)
      (World.shaped_of_ZipB (by kernel_rfl) (by kernel_rfl)) (by kernel_rfl) (by kernel_rfl) (by kernel_rfl)
      (by rw [MakeChecks.laidMetH_plain _ _ _ (by kernel_rfl)]; exact laidMet_laidAll _ (by kernel_rfl) (by kernel_rfl))) ?_
  intro W base args ds gs before hval0 hW hcnd hsz0 hL _
  have hval : ∀ (j : Nat) t v, Tryz.f3.params[j]? = some t → args[j]? = some v → Value.okWide Tryz.prog W .any base t v := hval0
  have hW' := hW
  obtain ⟨p, q, hA0, hV, rfl, hfz, hnd⟩ := hW
  have hA : DataW.TrodAll enc Tryz.prog W 0 (fun _ => true) true Tryz.f3.params.toList args.toList ds p := hA0
  rw [Tryz.params3] at hA hval
  obtain ⟨v0, vs0, d0, ds0, p0, q0, hargs, rfl, rfl, h0, r0⟩ := trodAll_cons hA
  obtain ⟨v1, vs1, d1, ds1, p1, q1, rfl, rfl, rfl, h1, r1⟩ := trodAll_cons r0
  obtain ⟨rfl, rfl, rfl⟩ := trodAll_nil r1
  obtain rfl : args = #[v0, v1] := by cases args; simp_all
  obtain ⟨rfl, rfl⟩ := trodVars_none hV
  have k0 := h0
  have k1 := h1
  have lt0 : ∀ x ∈ p0, x.block < W.heap.size := by obtain ⟨m, hm⟩ := k0; exact DataW.trod_lt m _ _ _ hm
  have lt1 : ∀ x ∈ p1, x.block < W.heap.size := by obtain ⟨m, hm⟩ := k1; exact DataW.trod_lt m _ _ _ hm
  obtain ⟨cs, rfl, hcs⟩ := okWide_struct Tryz.underlying44 (hval 0 44 v0 rfl rfl)
  have hsz : ∀ x ∈ DataW.weights Tryz.prog 44 d0, x ≤ reachBytes := fun x hx => by
    have hs := List.all_eq_true.1 hsz0 x (by
      rw [Tryz.params3]
      simp only [DataW.weightsEach, List.cons_append]
      exact List.mem_append_left _ hx)
    simpa using hs
  obtain ⟨c, hread, _⟩ : ∃ c, Ps.Rp Tryz.prog W 44 cs.toList c ∧ Ps.Fits c d0 := by
    obtain ⟨m, hm⟩ := h0
    exact Ps.rp_of_trod opTypes_plain m _ _ (d0, p0) (by simp [opTypes]) hm hsz
  obtain ⟨n, rfl⟩ := okWide_int Tryz.underlying3 (hval 1 3 v1 rfl rfl)
  clear hA0 hval0
  refine (walk cs.toList n c W hread).mono fun e W' ⟨he, bel⟩ => ?_
  subst he
  exact ⟨_, rfl, _, _, _, [], _, [], hW', trodAll_mk1 (shut_bool Tryz.underlying4 _), (trodAll_cons_mk (Below.trod laidOut (by kernel_rfl) (of_decide_eq_true (by kernel_rfl)) k0 bel lt0) (trodAll_cons_mk (Below.trod laidOut (by kernel_rfl) (of_decide_eq_true (by kernel_rfl)) k1 bel lt1) trodAll_mk0)), rfl, bel.frame _, fun h => by cases h⟩

theorem over : Rows.TxnEndsSaid :=
  OpenClaim.holds_of_wide 3 Tryz.f3 rfl rfl rfl rfl rfl rfl rfl ⟨rfl, rfl, rfl, rfl, rfl⟩ rfl rfl rfl rfl rfl (by kernel_rfl) Tryz.func3 closed
    (of_decide_eq_true (by kernel_rfl)) (by unfold Func.isWrapper; first | (rw [if_pos (by decide +kernel)]; kernel_rfl) | (rw [if_neg (by decide +kernel)]; exact ⟨rfl, rfl⟩))
    (fun os started H enc _ => lifted os started H enc)

theorem proved : Rows.TxnEndsCardSaid :=
  Claim7.holds_tied_plain_at .later [] [.data, .data, .data, .data, .pinned] true Rows.txnEndsCard.stood.harness true
    over (fun _ h => by cases h) (by kernel_rfl) (fun _ h => by cases h) txnEnds_row_tie rfl ⟨rfl, rfl⟩ main_is rfl
    (fun f fn hf hfn => by
      obtain rfl : f = 3 := Option.some.inj ((show Tryz.prog.funcNamed "bitemporal/bitemporallaw47.TxnEnds" = some 3 by kernel_rfl).symm.trans hf) |>.symm
      obtain rfl : fn = Tryz.f3 := (Option.some.inj (Tryz.func3.symm.trans hfn)).symm
      exact ⟨looks_not, fun j t ht => by
        rw [Tryz.params3] at ht
        have hm : t ∈ [44, 3] := by simpa using Array.mem_of_getElem? ht
        have hall : ([44, 3].all fun u => !Tryz.prog.wantsStandIn u) = true := by kernel_rfl
        exact (show Tryz.prog.wantsStandIn t = false by simpa using List.all_eq_true.1 hall t hm)⟩)
    goes_not
#print axioms proved
end Go.Proofs.YtkicpmdojmnmeaaGreatDoor.txnEnds
