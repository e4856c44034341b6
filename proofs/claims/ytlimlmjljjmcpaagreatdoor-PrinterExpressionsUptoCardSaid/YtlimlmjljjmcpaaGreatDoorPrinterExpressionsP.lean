/-
  The law PrinterExpressions, second form: any expression of at most 2000 nodes is written as defined. Condition: what the call reads holds together at most 1048576 values and letters; the listed variables' data (tied card).
-/
import Derived.Test.YtlimlmjljjmcpaaGreatDoorRows
import Derived.Test.YtlimlmjljjmcpaaGreatDoorCards
import Derived.Test.YtlimlmjljjmcpaaGreatDoorTie
import Derived.Test.YtlimlmjljjmcpaaGreatDoorPxLaw
import Derived.Test.YtlimlmjljjmcpaaGreatDoorPxmF5
import Derived.Test.YtlimlmjljjmcpaaGreatDoorPxmF6
import Derived.ProofKit
import Derived.OpenShut
import Derived.LaidMore
import Derived.Lay
import Derived.SevenTiedAt
import Derived.Stop.Joined
import Derived.Stop.LaidErr
import Derived.ChangeOld
import Derived.Below
import Derived.ShapedOpen
import Derived.Lib.LaidTab
import Derived.Lib.ItoaNum
import Derived.Shelf.Vars
import Derived.Deep.DeepHandedRow
namespace Go.Proofs.YtlimlmjljjmcpaaGreatDoor.printerExpressions
open Go.ChangeShapes Go.WideShapes Go.ChangeAt Go.RowKit
set_option linter.unusedVariables false

theorem own : ownKnob Tryz.prog.godebug = none := by kernel_rfl
theorem laidOut : laidOutB Tryz.prog = true := by kernel_rfl
theorem tab_eq : (Rows.laid_strings_asciiSpace : DataW Unit) = Lib.tabData .u8 Lib.asciiSpaceTab := by kernel_rfl
theorem pow_eq : (Rows.laid_internal_strconv_uint64pow10 : DataW Unit) = Lib.tabData .u64 Lib.pow10Tab := by kernel_rfl
theorem gMax : Tryz.prog.globalNamed "internal/bytealg.MaxLen" = some 0 := by kernel_rfl
theorem tabs_of {W : World} (h : laidMetH Tryz.prog Rows.printerExpressionsUptoRow.laid W) (hsh : W.ShapedOpen Tryz.prog) : Ax.TabW W ∧ Env W := by
  rw [MakeChecks.laidMetH_plain _ _ _ (by kernel_rfl)] at h
  have h2 := h.tail.tail.tail.tail.tail
  have h3 := h.tail.tail
  rw [tab_eq] at h2
  rw [pow_eq] at h3
  refine ⟨Ax.tabW_is (Lib.tabIs_of_head Ax.nSp (by kernel_rfl) Tryz.underlying298 Tryz.underlying5 (by kernel_rfl) (by kernel_rfl) h2)
    (Lib.tabIs_of_head Ax.nPow (by kernel_rfl) Tryz.underlying289 Tryz.underlying268 (by kernel_rfl) (by kernel_rfl) h3), ?_⟩
  exact ⟨Lib.tabIs_of_head Ax.nSp (by kernel_rfl) Tryz.underlying298 Tryz.underlying5 (by kernel_rfl) (by kernel_rfl) h2,
    Lib.tabIs_of_head gPow (by kernel_rfl) Tryz.underlying289 Tryz.underlying268 (by kernel_rfl) (by kernel_rfl) h3,
    cell_of_shapedOpen_int (P := Tryz.prog) (g := 0) (t := 3) (zero := #[.int .i64 0]) hsh (of_decide_eq_true (by kernel_rfl)) (by kernel_rfl) rfl (by kernel_rfl) (by kernel_rfl) Tryz.underlying3⟩
/-- the types that an expression is made of -/
def exTypes : List TypeId := [26, 23, 3, 9, 24]
theorem exTypes_plain : Ps.plainS Tryz.prog exTypes = true := by kernel_rfl
/-! ### bulk -/
theorem bulk_mem {H : Type} {d : DataW H} : ∀ {l : List (DataW H)}, d ∈ l → Rows.uptoBulk d ≤ Rows.uptoBulkAll l
  | x :: l, h => by
    rw [Rows.uptoBulkAll]
    rcases List.mem_cons.1 h with rfl | h
    · omega
    · have := bulk_mem h
      omega
theorem fits_a {H : Type} {xs : List Ps.C} {d : DataW H} (h : Ps.Fits (.a xs) d) : ∃ parts, d = .agg parts ∧ xs.length = parts.length ∧ ∀ i (h1 : i < xs.length) (h2 : i < parts.length), Ps.Fits xs[i] parts[i] := by
  cases h with
  | a hl hx => exact ⟨_, rfl, hl, hx⟩
theorem fits_s {H : Type} {xs : List Ps.C} {d : DataW H} (h : Ps.Fits (.s xs) d) : (xs = [] ∧ d = .nil) ∨ ∃ elems spare, d = .slice elems spare ∧ xs.length = elems.length ∧ ∀ i (h1 : i < xs.length) (h2 : i < elems.length), Ps.Fits xs[i] elems[i] := by
  cases h with
  | nil => exact .inl ⟨rfl, rfl⟩
  | s hl hx => exact .inr ⟨_, _, rfl, hl, hx⟩
theorem fits_str {H : Type} {s : Px.S} {d : DataW H} (h : Ps.Fits (.l (Px.strV s)) d) : Rows.uptoBulk d = s.length + 1 := by
  unfold Px.strV at h
  cases h
  simp [Rows.uptoBulk]
theorem bulk_of {H : Type} : ∀ (N : Nat) (x : Px.X) (d : DataW H), Px.nodes x ≤ N → Ps.Fits (Px.toC x) d → Px.nodes x ≤ Rows.uptoBulk d ∧ (Rows.uptoBulk d ≤ 1048576 → Px.shortX x)
  | 0, x, d, h, _ => absurd (Px.nodes_pos x) (by omega)
  | N + 1, .mk op int vk vi vs nm l, d, h, hf => by
    rw [Px.nodes] at h
    rw [Px.toC] at hf
    obtain ⟨parts, rfl, hl, hx⟩ := fits_a hf
    have h2 : 2 < parts.length := by simp at hl; omega
    have h3 : 3 < parts.length := by simp at hl; omega
    have h4 : 4 < parts.length := by simp at hl; omega
    have f2 := hx 2 (by simp) h2
    have f3 := hx 3 (by simp) h3
    have f4 := hx 4 (by simp) h4
    simp only [List.getElem_cons_succ, List.getElem_cons_zero] at f2 f3 f4
    have b2 : vs.length + 1 ≤ Rows.uptoBulk parts[2] := by
      obtain ⟨ps, e, hl2, hx2⟩ := fits_a f2
      rw [e, Rows.uptoBulk]
      have k2 : 2 < ps.length := by simp at hl2; omega
      have g2 := hx2 2 (by simp) k2
      simp only [List.getElem_cons_succ, List.getElem_cons_zero] at g2
      have := fits_str g2
      have := bulk_mem (List.getElem_mem k2)
      omega
    have b3 := fits_str f3
    have each : ∀ (l : List Px.X) (es : List (DataW H)), Px.nodesL l ≤ N → (Px.toCs l).length = es.length → (∀ i (h1 : i < (Px.toCs l).length) (h2 : i < es.length), Ps.Fits (Px.toCs l)[i] es[i]) → Px.nodesL l ≤ Rows.uptoBulkAll es ∧ (Rows.uptoBulkAll es ≤ 1048576 → Px.shortL l) := by
      intro l
      induction l with
      | nil => intro es _ _ _; exact ⟨by simp [Px.nodesL], fun _ => by simp [Px.shortL]⟩
      | cons x l ih =>
        intro es hn hl hx
        rw [Px.toCs] at hl
        match es, hl, hx with
        | e :: es, hl, hx =>
          rw [Px.nodesL] at hn
          have h0 := hx 0 (by simp [Px.toCs]) (by simp)
          simp only [Px.toCs, List.getElem_cons_zero] at h0
          have i1 := bulk_of N x e (by omega) h0
          have i2 := ih es (by omega) (by simpa using hl) (fun i h1 h2 => by
            have := hx (i + 1) (by simp [Px.toCs]; omega) (by simp; omega)
            simpa [Px.toCs] using this)
          rw [Px.nodesL, Rows.uptoBulkAll, Px.shortL]
          exact ⟨by omega, fun hb => ⟨i1.2 (by omega), i2.2 (by omega)⟩⟩
    have b4 : Px.nodesL l ≤ Rows.uptoBulk parts[4] ∧ (Rows.uptoBulk parts[4] ≤ 1048576 → Px.shortL l) := by
      rcases fits_s f4 with ⟨hc, _⟩ | ⟨es, sp, e, hl4, hx4⟩
      · have hl0 : l = [] := by
          cases l with
          | nil => rfl
          | cons x l => rw [Px.toCs] at hc; cases hc
        subst hl0
        exact ⟨by simp [Px.nodesL], fun _ => by simp [Px.shortL]⟩
      · have := each l es (by omega) hl4 hx4
        rw [e, Rows.uptoBulk]
        exact ⟨by omega, fun hb => this.2 (by omega)⟩
    have sum : Rows.uptoBulk parts[2] + (Rows.uptoBulk parts[3] + Rows.uptoBulk parts[4]) ≤ Rows.uptoBulkAll parts := by
      match parts, hl with
      | [d0, d1, d2, d3, d4], _ =>
        simp only [Rows.uptoBulkAll, List.getElem_cons_succ, List.getElem_cons_zero]
        omega
    rw [Rows.uptoBulk, Px.nodes, Px.shortX]
    exact ⟨by omega, fun hb => ⟨⟨by omega, by omega⟩, b4.2 (by omega)⟩⟩
/-! ### the witness -/
theorem witness_row_shaped {H : Type} {enc : TypeId × Value → H} {C : Checked} {os : Os} {f : FuncId} {fn : Func} {s : OpenSpec} {conds : List PathCond} {apart : Bool} {laid : List (String × DataW Unit)} (modest : Bool) (w0 : World) (args : Array Value) (hos : w0.os = os)
    (hsh : (w0.forCall (fun _ _ => 0) ⟨#[], args, []⟩).Shaped C.prog)
    (hok : Input.okWideB C.prog (w0.forCall (fun _ _ => 0) ⟨#[], args, []⟩) f ⟨#[], args, []⟩ = true)
    (hrow : s.preRow enc C.prog fn conds apart laid (w0.forCall (fun _ _ => 0) ⟨#[], args, []⟩).memory args) :
    ∃ (w : World) (tape : Tape) (i : Input), w.os = os ∧ (w.forCall tape i).Shaped C.prog ∧ i.vars = [] ∧ Input.okWide C.prog (w.forCall tape i) .any w.heap.size f i ∧
      s.preRow enc C.prog fn conds apart laid (w.forCall tape i).memory i.args ∧ ({ modest := modest } : Assume).holds C.prog (lone (Frame.enter C.prog f i.args .normal) [] (w.forCall tape i)) :=
  ⟨w0, fun _ _ => 0, ⟨#[], args, []⟩, hos, hsh, (Input.okWide_of_okWideB (base := 0) hok).1, (Input.okWide_of_okWideB hok).2, hrow, by
    simp only [Assume.holds]
    exact ⟨by simp, by simp, fun _ => Modest.zero, by simp, by simp⟩⟩
theorem reads (os : Os) {H : Type} (enc : TypeId × Value → H) : ∃ places, DataW.whole enc Tryz.prog ((World.laidAll Tryz.prog os Rows.printerExpressionsUptoRow.laid).forCall (fun _ _ => 0) ⟨#[], #[.agg #[.int .i64 0, .int .i64 0, .int .i64 0, .int .i64 0, .string ⟨#[]⟩, .string ⟨#[]⟩, .slice none 0 0]], []⟩).memory Tryz.f3.params.toList Rows.printerExpressionsSpec.vars false #[(.agg #[.int .i64 0, .int .i64 0, .int .i64 0, .int .i64 0, .string ⟨#[]⟩, .string ⟨#[]⟩, .slice none 0 0] : Value)].toList 8 = some ([.agg [.lit (.int .i64 0), .lit (.int .i64 0), .agg [.lit (.int .i64 0), .lit (.int .i64 0), .lit (.string [])], .lit (.string []), .nil]], [], places) :=
  ⟨[], by kernel_rfl⟩

set_option maxRecDepth 100000 in
theorem lifted (os : Os) (started : os.Started) (H : Type) (enc : TypeId × Value → H) (F : Stop.Interp) :
    ReturnsInHanded {} Tryz.checked os 3 .any ((Rows.OpenSpec.upto Rows.printerExpressionsSpec).preRow enc Tryz.prog Tryz.f3 Rows.printerExpressionsUptoRow.domain false Rows.printerExpressionsUptoRow.laid) (((Rows.OpenSpec.upto Rows.printerExpressionsSpec).at F).post enc Tryz.prog Tryz.f3 false true false false) := by
  obtain ⟨places, hx⟩ := reads os enc
  refine returnsInHanded_of_row (C := Tryz.checked) (s := Rows.OpenSpec.upto Rows.printerExpressionsSpec) own started (by kernel_rfl) Tryz.func3
    (witness_row_shaped (enc := enc) (C := Tryz.checked) false (World.laidAll Tryz.prog os Rows.printerExpressionsUptoRow.laid) #[.agg #[.int .i64 0, .int .i64 0, .int .i64 0, .int .i64 0, .string ⟨#[]⟩, .string ⟨#[]⟩, .slice none 0 0]] (World.laidAll_os _ _ _)
      (World.shaped_of_ZipB (by kernel_rfl) (by kernel_rfl)) (by kernel_rfl)
      (OpenSpec.preRow_of_cond 8 hx (by kernel_rfl) (fun k hk => by cases hk; kernel_rfl) (by kernel_rfl) (by rw [MakeChecks.laidMetH_plain _ _ _ (by kernel_rfl)]; exact laidMet_laidAll _ (by kernel_rfl) (by kernel_rfl)))) ?_
  intro W base args ds gs before hval0 hW hcnd hcond hsz0 hL hsh _
  have hval : ∀ (j : Nat) t v, Tryz.f3.params[j]? = some t → args[j]? = some v → Value.okWide Tryz.prog W .any base t v := hval0
  have hW' := hW
  obtain ⟨p, q, hA0, hV, rfl, hfz, hnd⟩ := hW
  have hA : DataW.TrodAll enc Tryz.prog W 0 (fun _ => true) true Tryz.f3.params.toList args.toList ds p := hA0
  rw [Tryz.params3] at hA hval
  obtain ⟨v0, vs0, d0, ds0, p0, q0, hargs, rfl, rfl, h0, r0⟩ := trodAll_cons hA
  obtain ⟨rfl, rfl, rfl⟩ := trodAll_nil r0
  obtain rfl : args = #[v0] := by cases args; simp_all
  obtain ⟨rfl, rfl⟩ := trodVars_none hV
  have k0 := h0
  have lt0 : ∀ x ∈ p0, x.block < W.heap.size := by obtain ⟨m, hm⟩ := k0; exact DataW.trod_lt m _ _ _ hm
  obtain ⟨cs, rfl, hcs⟩ := okWide_struct Tryz.underlying26 (hval 0 26 v0 rfl rfl)
  have hsz0_ : ∀ x ∈ DataW.weights Tryz.prog 26 d0, x ≤ reachBytes := fun x hx => by
    have hs := List.all_eq_true.1 hsz0 x (by
      rw [Tryz.params3]
      simp only [DataW.weightsEach, List.cons_append]
      exact List.mem_append_left _ hx)
    simpa using hs
  have hbulk : Rows.uptoBulk d0 ≤ 1048576 := by
    have hb := of_decide_eq_true (hcond _ rfl)
    simp only [List.append_nil, Rows.uptoBulkAll] at hb
    omega
  obtain ⟨c, hread0, hfit⟩ : ∃ c, Ps.Rp Tryz.prog W 26 cs.toList c ∧ Ps.Fits c d0 := by
    obtain ⟨m, hm⟩ := h0
    exact Ps.rp_of_trod exTypes_plain m _ _ (d0, p0) (by simp [exTypes]) hm hsz0_
  obtain ⟨x, rfl⟩ := Px.x_of _ W _ c (Nat.le_refl _) hread0
  have hbx := bulk_of _ x d0 (Nat.le_refl _) hfit
  have hts := tabs_of hL hsh
  clear hA0 hval0
  refine (Px.expressions_walk x cs.toList W (by omega) (hbx.2 hbulk) hts.2 hts.1 hread0).mono fun e W' ⟨he, bel⟩ => ?_
  subst he
  exact ⟨_, rfl, _, _, _, [], _, [], hW', trodAll_mk1 (shut_bool Tryz.underlying4 _), (trodAll_cons_mk (Below.trod laidOut (by kernel_rfl) (of_decide_eq_true (by kernel_rfl)) k0 bel lt0) trodAll_mk0), rfl, bel.frame _, fun h => by cases h⟩

theorem over : Rows.PrinterExpressionsUptoSaid :=
  OpenClaim.holds_of_cond 3 Tryz.f3 rfl rfl rfl rfl rfl rfl rfl ⟨rfl, rfl, rfl, rfl, rfl⟩ rfl rfl rfl rfl rfl (by kernel_rfl) Tryz.func3 closed
    (of_decide_eq_true (by kernel_rfl)) (by unfold Func.isWrapper; first | (rw [if_pos (by decide +kernel)]; kernel_rfl) | (rw [if_neg (by decide +kernel)]; exact ⟨rfl, rfl⟩))
    (fun os started H enc _ F => by rw [OpenClaim.pre_eq_preRow]; exact lifted os started H enc F)

theorem proved : Rows.PrinterExpressionsUptoCardSaid :=
  Claim7.holds_tied_plain_at .later [] [.data, .data, .data, .data, .listed, .data, .pinned, .pinned] true Rows.printerExpressionsUptoCard.stood.harness true
    over (fun _ h => by cases h) (by kernel_rfl) (fun _ h => by cases h) printerExpressionsUpto_row_tie rfl ⟨rfl, rfl⟩ main_is rfl
    (fun f fn hf hfn => by
      obtain rfl : f = 3 := Option.some.inj ((show Tryz.prog.funcNamed "bitemporal/bitemporallaw19.PrinterExpressions" = some 3 by kernel_rfl).symm.trans hf) |>.symm
      obtain rfl : fn = Tryz.f3 := (Option.some.inj (Tryz.func3.symm.trans hfn)).symm
      exact ⟨looks_not, fun j t ht => by
        rw [Tryz.params3] at ht
        have hm : t ∈ [26] := by simpa using Array.mem_of_getElem? ht
        have hall : ([26].all fun u => !Tryz.prog.wantsStandIn u) = true := by kernel_rfl
        exact (show Tryz.prog.wantsStandIn t = false by simpa using List.all_eq_true.1 hall t hm)⟩)
    goes_not
#print axioms proved
end Go.Proofs.YtlimlmjljjmcpaaGreatDoor.printerExpressions
