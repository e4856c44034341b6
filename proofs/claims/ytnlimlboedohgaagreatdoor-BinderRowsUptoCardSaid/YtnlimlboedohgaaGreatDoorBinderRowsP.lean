/-
  The law BinderRows, second form: rows of printable expressions for a valid table are evaluated as defined. Condition: what the call reads holds together at most 1048576 values and letters; the listed variables' data (tied card).
-/
import Derived.Test.YtnlimlboedohgaaGreatDoorRows
import Derived.Test.YtnlimlboedohgaaGreatDoorCards
import Derived.Test.YtnlimlboedohgaaGreatDoorTie
import Derived.Test.YtnlimlboedohgaaGreatDoorRwA
import Derived.Test.YtnlimlboedohgaaGreatDoorBkBulk
import Derived.Test.YtnlimlboedohgaaGreatDoorBrmE
import Derived.ProofKit
import Derived.OpenShut
import Derived.LaidMore
import Derived.Lay
import Derived.SevenTiedAt
import Derived.Stop.Joined
import Derived.Stop.LaidErr
import Derived.ChangeOld
import Derived.Below
import Derived.ShapedOpen
import Derived.Lib.LaidTab
import Derived.Lib.ItoaNum
import Derived.Shelf.Vars
import Derived.Deep.DeepHandedRow
set_option maxRecDepth 100000
namespace Go.Proofs.YtnlimlboedohgaaGreatDoor.binderRows
open Go.ChangeShapes Go.WideShapes Go.ChangeAt Go.RowKit
set_option linter.unusedVariables false

theorem own : ownKnob Tryz.prog.godebug = none := by kernel_rfl
theorem laidOut : laidOutB Tryz.prog = true := by kernel_rfl
theorem tab_eq : (Rows.laid_strings_asciiSpace : DataW Unit) = Lib.tabData .u8 Lib.asciiSpaceTab := by kernel_rfl
theorem pow_eq : (Rows.laid_internal_strconv_uint64pow10 : DataW Unit) = Lib.tabData .u64 Lib.pow10Tab := by kernel_rfl
theorem gMax : Tryz.prog.globalNamed "internal/bytealg.MaxLen" = some 0 := by kernel_rfl
theorem tabs_of {W : World} (h : laidMetH Tryz.prog Rows.binderRowsUptoRow.laid W) (hsh : W.ShapedOpen Tryz.prog) : Ax.TabW W /\ Env W := by
 rw [MakeChecks.laidMetH_plain _ _ _ (by kernel_rfl)] at h
 have h2 := h.tail.tail.tail.tail.tail
 have h3 := h.tail.tail
 rw [tab_eq] at h2
 rw [pow_eq] at h3
 refine ⟨Ax.tabW_is (Lib.tabIs_of_head Ax.nSp (by kernel_rfl) Tryz.underlying365 Tryz.underlying5 (by kernel_rfl) (by kernel_rfl) h2)
  (Lib.tabIs_of_head Ax.nPow (by kernel_rfl) Tryz.underlying406 Tryz.underlying379 (by kernel_rfl) (by kernel_rfl) h3), ?_⟩
 exact ⟨Lib.tabIs_of_head Ax.nSp (by kernel_rfl) Tryz.underlying365 Tryz.underlying5 (by kernel_rfl) (by kernel_rfl) h2,
  Lib.tabIs_of_head gPow (by kernel_rfl) Tryz.underlying406 Tryz.underlying379 (by kernel_rfl) (by kernel_rfl) h3,
  cell_of_shapedOpen_int (P := Tryz.prog) (g := 0) (t := 3) (zero := #[.int .i64 0]) hsh (of_decide_eq_true (by kernel_rfl)) (by kernel_rfl) rfl (by kernel_rfl) (by kernel_rfl) Tryz.underlying3⟩
/-- the types that the arguments are made of -/
def tbTypes : List TypeId := [27, 31, 29, 3, 9, 4, 25, 22, 89, 23, 24, 142, 47]
theorem tbTypes_plain : Ps.plainS Tryz.prog tbTypes = true := by kernel_rfl
theorem bulk_rows {H : Type} {L : List (List Px.X)} {d : DataW H} (h : Ps.Fits (.s (L.map Px.rowC)) d) (hd : Rows.uptoBulk d <= 1048576) : L.length <= 2000000 /\ ∀ r ∈ L, r.length <= 1000000 /\ ∀ x ∈ r, Px.nodes x <= 1000000 /\ Px.shortX x := by
 refine ⟨?_, fun r hr => ?_⟩
 ·have := Bk.bulk_len (q := 1) h (fun i hi e he => by
   rw [List.getElem_map] at he
   unfold Px.rowC at he
   rcases Bk.fits_s he with ⟨_, rfl⟩ | ⟨es, sp, rfl, _⟩
   ·simp [Rows.uptoBulk]
   ·rw [Rows.uptoBulk]; omega)
  rw [List.length_map] at this
  omega
 ·obtain ⟨i, hi, rfl⟩ := List.getElem_of_mem hr
  obtain ⟨e, he, hb⟩ := Bk.bulk_elem h i (by simpa using hi)
  rw [List.getElem_map] at he
  unfold Px.rowC at he
  refine ⟨?_, Bk.bulk_exprs he (by omega)⟩
  have := Bk.bulk_len (q := 2) he (fun j hj e2 he2 => by
   have hj2 : j < L[i].length := by rw [Px.toCs_map, List.length_map] at hj; exact hj
   have e3 : (Px.toCs L[i])[j] = Px.toC L[i][j] := by simp only [Px.toCs_map, List.getElem_map]
   rw [e3] at he2
   have h4 := (Bk.bulk_of _ L[i][j] e2 (Nat.le_refl _) he2).1
   have h5 := Px.nodes_pos L[i][j]
   omega)
  rw [Px.toCs_map, List.length_map] at this
  omega
/-! ### the witness -/
theorem witness_row_shaped {H : Type} {enc : TypeId × Value -> H} {C : Checked} {os : Os} {f : FuncId} {fn : Func} {s : OpenSpec} {conds : List PathCond} {apart : Bool} {laid : List (String × DataW Unit)} (modest : Bool) (w0 : World) (args : Array Value) (hos : w0.os = os)
  (hsh : (w0.forCall (fun _ _ => 0) ⟨#[], args, []⟩).Shaped C.prog)
  (hok : Input.okWideB C.prog (w0.forCall (fun _ _ => 0) ⟨#[], args, []⟩) f ⟨#[], args, []⟩ = true)
  (hrow : s.preRow enc C.prog fn conds apart laid (w0.forCall (fun _ _ => 0) ⟨#[], args, []⟩).memory args) :
  ∃ (w : World) (tape : Tape) (i : Input), w.os = os /\ (w.forCall tape i).Shaped C.prog /\ i.vars = [] /\ Input.okWide C.prog (w.forCall tape i) .any w.heap.size f i /\
   s.preRow enc C.prog fn conds apart laid (w.forCall tape i).memory i.args /\ ({ modest := modest } : Assume).holds C.prog (lone (Frame.enter C.prog f i.args .normal) [] (w.forCall tape i)) :=
 ⟨w0, fun _ _ => 0, ⟨#[], args, []⟩, hos, hsh, (Input.okWide_of_okWideB (base := 0) hok).1, (Input.okWide_of_okWideB hok).2, hrow, by
  simp only [Assume.holds]
  exact ⟨by simp, by simp, fun _ => Modest.zero, by simp, by simp⟩⟩
theorem reads (os : Os) {H : Type} (enc : TypeId × Value -> H) : ∃ places, DataW.whole enc Tryz.prog ((World.laidAll Tryz.prog os Rows.binderRowsUptoRow.laid).forCall (fun _ _ => 0) ⟨#[], #[.agg #[.string ⟨#[]⟩, .slice none 0 0, .slice none 0 0, .slice none 0 0, .slice none 0 0], .slice none 0 0], []⟩).memory Tryz.f5.params.toList Rows.binderRowsSpec.vars false #[(.agg #[.string ⟨#[]⟩, .slice none 0 0, .slice none 0 0, .slice none 0 0, .slice none 0 0] : Value), .slice none 0 0].toList 8 = some ([.agg [.lit (.string []), .nil, .nil, .nil, .nil], .nil], [], places) :=
 ⟨[], by kernel_rfl⟩

theorem lifted (os : Os) (started : os.Started) (H : Type) (enc : TypeId × Value -> H) (F : Stop.Interp) :
  ReturnsInHanded {} Tryz.checked os 5 .any ((Rows.OpenSpec.upto Rows.binderRowsSpec).preRow enc Tryz.prog Tryz.f5 Rows.binderRowsUptoRow.domain false Rows.binderRowsUptoRow.laid) (((Rows.OpenSpec.upto Rows.binderRowsSpec).at F).post enc Tryz.prog Tryz.f5 false true false false) := by
 obtain ⟨places, hx⟩ := reads os enc
 refine returnsInHanded_of_row (C := Tryz.checked) (s := Rows.OpenSpec.upto Rows.binderRowsSpec) own started (by kernel_rfl) Tryz.func5
  (witness_row_shaped (enc := enc) (C := Tryz.checked) false (World.laidAll Tryz.prog os Rows.binderRowsUptoRow.laid) #[.agg #[.string ⟨#[]⟩, .slice none 0 0, .slice none 0 0, .slice none 0 0, .slice none 0 0], .slice none 0 0] (World.laidAll_os _ _ _)
   (World.shaped_of_ZipB (by kernel_rfl) (by kernel_rfl)) (by kernel_rfl)
   (OpenSpec.preRow_of_cond 8 hx (by kernel_rfl) (fun k hk => by cases hk; kernel_rfl) (by kernel_rfl) (by rw [MakeChecks.laidMetH_plain _ _ _ (by kernel_rfl)]; exact laidMet_laidAll _ (by kernel_rfl) (by kernel_rfl)))) ?_
 intro W base args ds gs before hval0 hW hcnd hcond hsz0 hL hsh _
 have hval : ∀ (j : Nat) t v, Tryz.f5.params[j]? = some t -> args[j]? = some v -> Value.okWide Tryz.prog W .any base t v := hval0
 have hW' := hW
 obtain ⟨p, q, hA0, hV, rfl, hfz, hnd⟩ := hW
 have hA : DataW.TrodAll enc Tryz.prog W 0 (fun _ => true) true Tryz.f5.params.toList args.toList ds p := hA0
 rw [Tryz.params5] at hA hval
 obtain ⟨v0, vs0, d0, ds0, p0, q0, hargs, rfl, rfl, h0, r0⟩ := trodAll_cons hA
 obtain ⟨v1, vs1, d1, ds1, p1, q1, hargs1, rfl, rfl, h1, r1⟩ := trodAll_cons r0
 obtain ⟨rfl, rfl, rfl⟩ := trodAll_nil r1
 obtain rfl : args = #[v0, v1] := by cases args; simp_all
 obtain ⟨rfl, rfl⟩ := trodVars_none hV
 have k0 := h0
 have k1 := h1
 have lt0 : ∀ x ∈ p0, x.block < W.heap.size := by obtain ⟨m, hm⟩ := k0; exact DataW.trod_lt m _ _ _ hm
 have lt1 : ∀ x ∈ p1, x.block < W.heap.size := by obtain ⟨m, hm⟩ := k1; exact DataW.trod_lt m _ _ _ hm
 obtain ⟨ts, rfl, hts0⟩ := okWide_struct Tryz.underlying27 (hval 0 27 v0 rfl rfl)
 obtain ⟨sa, n, sm, rfl⟩ := okWide_slice Tryz.underlying47 (hval 1 47 v1 rfl rfl)
 have hsz0_ : ∀ x ∈ DataW.weights Tryz.prog 27 d0, x <= reachBytes := fun x hx => by
  have hs := List.all_eq_true.1 hsz0 x (by
   rw [Tryz.params5]
   simp only [DataW.weightsEach, List.cons_append]
   exact List.mem_append_left _ hx)
  simpa using hs
 have hsz1_ : ∀ x ∈ DataW.weights Tryz.prog 47 d1, x <= reachBytes := fun x hx => by
  have hs := List.all_eq_true.1 hsz0 x (by
   rw [Tryz.params5]
   simp only [DataW.weightsEach, List.cons_append]
   exact List.mem_append_right _ (List.mem_append_left _ hx))
  simpa using hs
 have hbulk : Rows.uptoBulk d0 <= 1048576 /\ Rows.uptoBulk d1 <= 1048576 := by
  have hb := of_decide_eq_true (hcond _ rfl)
  simp only [List.append_nil, Rows.uptoBulkAll] at hb
  omega
 obtain ⟨c0, hread0, hfit0⟩ : ∃ c, Ps.Rp Tryz.prog W 27 ts.toList c /\ Ps.Fits c d0 := by
  obtain ⟨m, hm⟩ := h0
  exact Ps.rp_of_trod tbTypes_plain m _ _ (d0, p0) (by simp [tbTypes]) hm hsz0_
 obtain ⟨c, hread, hfit⟩ : ∃ c, Ps.Rp Tryz.prog W 47 [.slice sa n sm] c /\ Ps.Fits c d1 := by
  obtain ⟨m, hm⟩ := h1
  exact Ps.rp_of_trod tbTypes_plain m _ _ (d1, p1) (by simp [tbTypes]) hm hsz1_
 obtain ⟨t, rfl⟩ := Px.t_of hread0
 obtain ⟨l, rfl⟩ : ∃ l : List (List Px.X), c = .s (l.map Px.rowC) := by
  obtain ⟨_, _, _, xs, _, rfl, _⟩ := hread.slice_inv Tryz.underlying47
  obtain ⟨l, rfl⟩ := Px.rows_of hread
  exact ⟨l, rfl⟩
 have hbx := bulk_rows hfit hbulk.2
 have hbt := Bk.bulk_table hfit0 hbulk.1
 have hts := tabs_of hL hsh
 clear hA0 hval0
 refine (Px.rows_tr t l ts.toList _ W hbt.1 hbt.2.1 hbt.2.2.1 hbt.2.2.2 hbx.1 hbx.2 hts.2 hts.1 hread0 hread).mono fun e W' ⟨he, bel⟩ => ?_
 subst he
 exact ⟨_, rfl, _, _, _, [], _, [], hW', trodAll_mk1 (shut_bool Tryz.underlying4 _), (trodAll_cons_mk (Below.trod laidOut (by kernel_rfl) (of_decide_eq_true (by kernel_rfl)) k0 bel lt0) (trodAll_cons_mk (Below.trod laidOut (by kernel_rfl) (of_decide_eq_true (by kernel_rfl)) k1 bel lt1) trodAll_mk0)), rfl, bel.frame _, fun h => by cases h⟩

theorem over : Rows.BinderRowsUptoSaid :=
 OpenClaim.holds_of_cond 5 Tryz.f5 rfl rfl rfl rfl rfl rfl rfl ⟨rfl, rfl, rfl, rfl, rfl⟩ rfl rfl rfl rfl rfl (by kernel_rfl) Tryz.func5 closed
  (of_decide_eq_true (by kernel_rfl)) (by unfold Func.isWrapper; first | (rw [if_pos (by decide +kernel)]; kernel_rfl) | (rw [if_neg (by decide +kernel)]; exact ⟨rfl, rfl⟩))
  (fun os started H enc _ F => by rw [OpenClaim.pre_eq_preRow]; exact lifted os started H enc F)

theorem proved : Rows.BinderRowsUptoCardSaid :=
 Claim7.holds_tied_plain_at .later [] [.data, .data, .data, .data, .listed, .data, .pinned, .pinned] true Rows.binderRowsUptoCard.stood.harness true
  over (fun _ h => by cases h) (by kernel_rfl) (fun _ h => by cases h) binderRowsUpto_row_tie rfl ⟨rfl, rfl⟩ main_is rfl
  (fun f fn hf hfn => by
   obtain rfl : f = 5 := Option.some.inj ((show Tryz.prog.funcNamed "bitemporal/bitemporallaw20.BinderRows" = some 5 by kernel_rfl).symm.trans hf) |>.symm
   obtain rfl : fn = Tryz.f5 := (Option.some.inj (Tryz.func5.symm.trans hfn)).symm
   exact ⟨looks_not, fun j t ht => by
    rw [Tryz.params5] at ht
    have hm : t ∈ [27, 47] := by simpa using Array.mem_of_getElem? ht
    have hall : ([27, 47].all fun u => !Tryz.prog.wantsStandIn u) = true := by kernel_rfl
    exact (show Tryz.prog.wantsStandIn t = false by simpa using List.all_eq_true.1 hall t hm)⟩)
  goes_not
#print axioms proved
end Go.Proofs.YtnlimlboedohgaaGreatDoor.binderRows
