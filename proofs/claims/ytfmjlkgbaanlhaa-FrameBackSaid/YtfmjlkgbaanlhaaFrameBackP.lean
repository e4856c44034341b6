/-
  The law FrameBack holds for every input: appended frames are found again, also if their end is torn off at any offset. No condition.
  (The frame of the row's step was written by the kit's proof-skeleton for another law and turned.)
-/
import Derived.Test.YtfmjlkgbaanlhaaRows
import Derived.WalkKit
import Derived.ProofKit
import Derived.OpenShut
import Derived.ShutString
import Derived.ChangeOld
import Derived.Below
import Derived.Deep.Matrix
import Derived.Test.YtfmjlkgbaanlhaaFrLaw5
namespace Go.Proofs.Ytfmjlkgbaanlhaa.frameBack
open Go.ChangeShapes Go.WideShapes Go.ChangeAt Go.RowKit
open Go.ChangeMaps (open_string shut_string)
set_option linter.unusedVariables false

theorem own : ownKnob Try.prog.godebug = none := by kernel_rfl
theorem laidOut : laidOutB Try.prog = true := by kernel_rfl

theorem weights_all {H : Type} {P : Program} {e : TypeId} {d : DataW H} {x : Nat} : ∀ {l : List (DataW H)}, d ∈ l → x ∈ d.weights P e → x ∈ DataW.weightsAll P e l
  | y :: l, h, hx => by
    simp only [DataW.weightsAll, List.mem_append]
    rcases List.mem_cons.1 h with rfl | h
    · exact .inl hx
    · exact .inr (weights_all h hx)
/-- the reach, of a slice among the elements of a slice -/
theorem sized_inner {H : Type} {P : Program} {ts : List TypeId} {ds : List (DataW H)} (h : (DataW.weightsEach P ts ds).all (· ≤ reachBytes) = true) {j : Nat} {t e q : TypeId} {elems spare a b : List (DataW H)} (ht : ts[j]? = some t) (hd : ds[j]? = some (.slice elems spare)) (hu : P.underlying t = some (.slice e)) (he : P.underlying e = some (.slice q))
    (hm : DataW.slice a b ∈ elems) : (a.length + b.length) * P.bytesOf q ≤ reachBytes := by
  have hmem : (a.length + b.length) * P.bytesOf q ∈ (DataW.slice elems spare).weights P t := by
    simp only [DataW.weights, hu]
    refine List.mem_cons_of_mem _ (List.mem_append_left _ (weights_all hm ?_))
    simp [DataW.weights, he]
  have := List.all_eq_true.1 h _ (DataW.weights_mem_each ht hd _ hmem)
  simpa using this
theorem add_none (b off : Nat) (j : Nat) : (Addr.add ⟨b, off, none⟩ j) = ⟨b, off + j, none⟩ := by simp [Addr.add]
/-- one slice of bytes that came in -/
theorem bytes_at {w : World} {A : Option Addr} {L C : Nat} {Z : List Int} (hLC : L ≤ C) (hZ : Z.length = C) (hw : ∀ n ∈ Z, (Lit.int .u8 n).wf = true) (h0 : A = none → C = 0) (hc : ∀ a', A = some a' → ∀ i, i < C → w.cell? (a'.add i) = some (.int .u8 (Z.getD i 0))) :
    Bytes w w.heap.size A L (toB (Z.take L)) := by
  rcases A with _ | a'
  · have := h0 rfl
    obtain rfl : L = 0 := by omega
    exact Bytes.nil _ _ _
  · by_cases hz : C = 0
    · obtain rfl : L = 0 := by omega
      exact Bytes.nil _ _ _
    · refine ⟨by simp [toB]; omega, fun hp => ?_⟩
      obtain ⟨b, off, spot⟩ := a'
      have hc0 := hc _ rfl 0 (by omega)
      have hs : spot = none := by simpa [Addr.add] using World.cell?_spot hc0
      subst hs
      refine ⟨b, off, rfl, block_lt (a := ⟨b, off, none⟩) (by simpa [Addr.add] using hc0), fun j hj => ?_⟩
      have hjz : j < Z.length := by simp [toB] at hj; omega
      have hj' := hc _ rfl j (by omega)
      rw [add_none] at hj'
      rw [hj']
      have hwz := hw Z[j] (List.getElem_mem hjz)
      have hbd : 0 ≤ Z[j] ∧ Z[j] ≤ 255 := by simpa [Lit.wf, IntKind.min, IntKind.max, IntKind.signed, IntKind.bits] using hwz
      simp [toB, hjz]
      omega

theorem walk (a0 : Option Addr) (len0 cap0 : Nat) (l0 : List (List UInt8)) (a1 : Int) (w : World) (w0 : Lists w w.heap.size a0 len0 l0) (s0 : len0 ≤ 140737488351232) (i0 : ∀ b ∈ l0, b.length ≤ 140737488351232) (c0 : len0 ≤ cap0) (m0 : cap0 ≤ 9223372036854775807) (w1 : (Lit.int .i64 a1).wf = true) :
    Calls Try.prog 8 #[.slice a0 len0 cap0, .int .i64 a1] w fun e w' => e = .returned (.bool true) ∧ Below w.heap.size w w' :=
  frameBack_walk a0 len0 cap0 l0 a1 w w0 s0 i0 c0 m0

set_option maxRecDepth 100000 in
theorem lifted (os : Os) (started : os.Started) (H : Type) (enc : TypeId × Value → H) :
    ReturnsInHanded {} Try.checked os 8 .any (Rows.frameBackSpec.pre6 enc Try.prog Try.f8 Rows.frameBackRow.domain false) (Rows.frameBackSpec.post enc Try.prog Try.f8 false true false false) := by
  refine returnsInHanded_of_change_sized (C := Try.checked) own started (by kernel_rfl) Try.func8
    (ChangeSpec.witness6 (enc := enc) (C := Try.checked) false ⟨#[], #[.slice none 0 0, .int .i64 0], []⟩ 8 (by kernel_rfl) (by kernel_rfl) (by kernel_rfl) (by kernel_rfl)) ?_
  intro W base args ds gs before hval0 hW hcnd hsz0 _
  have hval : ∀ (j : Nat) t v, Try.f8.params[j]? = some t → args[j]? = some v → Value.okWide Try.prog W .any base t v := hval0
  have hsz : (DataW.weightsEach Try.prog (Try.f8.params.toList ++ Rows.frameBackSpec.plain.varTypes Try.prog) (ds ++ gs)).all (· ≤ reachBytes) = true := hsz0
  have hW' := hW
  obtain ⟨p, q, hA0, hV, rfl, hfz, hnd⟩ := hW
  have hA : DataW.TrodAll enc Try.prog W 0 (fun _ => true) true Try.f8.params.toList args.toList ds p := hA0
  rw [Try.params8] at hA hval hsz
  obtain ⟨v0, vs0, d0, ds0, p0, q0, hargs, rfl, rfl, h0, r0⟩ := trodAll_cons hA
  obtain ⟨v1, vs1, d1, ds1, p1, q1, rfl, rfl, rfl, h1, r1⟩ := trodAll_cons r0
  obtain ⟨rfl, rfl, rfl⟩ := trodAll_nil r1
  obtain rfl : args = #[v0, v1] := by cases args; simp_all
  obtain ⟨rfl, rfl⟩ := trodVars_none hV
  obtain ⟨a0, len0, cap0, rfl⟩ := okWide_slice Try.underlying38 (hval 0 38 v0 rfl rfl)
  have k0 := h0
  have lt0 : ∀ x ∈ p0, x.block < W.heap.size := by obtain ⟨m, hm⟩ := k0; exact DataW.trod_lt m _ _ _ hm
  obtain ⟨l0, w0, s0, i0, c0, m0⟩ : ∃ l, Lists W W.heap.size a0 len0 l ∧ len0 ≤ 140737488351232 ∧ (∀ b ∈ l, b.length ≤ 140737488351232) ∧ len0 ≤ cap0 ∧ cap0 ≤ 9223372036854775807 := by
    obtain ⟨fuel, hf⟩ := h0
    rcases Deep.open_int_rows Try.underlying38 Try.underlying22 Try.underlying5 (by kernel_rfl) (by kernel_rfl) hf with ⟨hcs, _⟩ | ⟨x, len, cap, A, L, C, Z, hcs, _, hl, hm, hx, hrow⟩
    · simp [Value.cells] at hcs
      obtain ⟨rfl, rfl, rfl⟩ := hcs
      exact ⟨[], Lists.nil _ _ _, by omega, (fun b h => nomatch h), by omega, by omega⟩
    · simp [Value.cells] at hcs
      obtain ⟨rfl, rfl, rfl⟩ := hcs
      simp only [Prod.mk.injEq] at hx
      obtain ⟨rfl, rfl⟩ := hx
      have hs := sized_slice hsz (j := 0) (t := 38) (e := 22) rfl rfl Try.underlying38
      rw [show Try.prog.bytesOf 22 = 24 from by kernel_rfl] at hs
      simp only [List.length_map, List.length_range, reachBytes] at hs
      refine ⟨(List.range len0).map fun r => toB ((Z r).take (L r)), ⟨by simp, fun hp => ?_⟩, by omega, fun b hb => ?_, hl, by simpa [maxLen] using hm⟩
      · obtain ⟨bb, off, spot⟩ := x
        have h0 := (hrow 0 (by omega)).1
        have hsp : spot = none := by simpa [Addr.add] using World.cell?_spot h0
        subst hsp
        refine ⟨bb, off, rfl, block_lt (a := ⟨bb, off, none⟩) (by simpa [Addr.add] using h0), fun j hj => ?_⟩
        have hjl : j < len0 := by simpa using hj
        obtain ⟨e1, e2, e3, e4, e5, e6, e7⟩ := hrow j (by omega)
        have hlen : (((List.range len0).map fun r => toB ((Z r).take (L r)))[j]).length = L j := by simp [toB]; omega
        refine ⟨A j, C j, ?_, ?_, ?_⟩
        · rw [hlen, ← e1, add_none]
        · rw [hlen]; exact e2
        · rw [hlen]
          simpa using bytes_at e2 e4 e5 e6 (fun a' h => (e7 a' h).2)
      · obtain ⟨r, hr, rfl⟩ := List.mem_map.1 hb
        have hrl : r < len0 := by simpa using hr
        obtain ⟨e1, e2, e3, e4, e5, e6, e7⟩ := hrow r (by omega)
        rcases hA : A r with _ | a'
        · have := e6 hA
          simp [toB]
          omega
        · have hi := sized_inner hsz (j := 0) (t := 38) (e := 22) (q := 5) rfl rfl Try.underlying38 Try.underlying22 (a := lits .u8 ((Z r).take (L r))) (b := lits .u8 ((Z r).drop (L r)))
            (List.mem_map.2 ⟨r, List.mem_range.2 hrl, by simp [Deep.intRow, hA]⟩)
          rw [show Try.prog.bytesOf 5 = 1 from by kernel_rfl] at hi
          simp only [lits, List.length_map, List.length_take, List.length_drop, reachBytes] at hi
          simp [toB]
          omega
  obtain ⟨a1, rfl, rfl, rfl, w1⟩ := open_int Try.underlying3 (hval 1 3 v1 rfl rfl) h1
  clear hA0 hval0
  refine (walk a0 len0 cap0 l0 a1 W w0 s0 i0 c0 m0 w1).mono fun e W' ⟨he, bel⟩ => ?_
  subst he
  exact ⟨_, rfl, _, _, _, [], _, [], hW', trodAll_mk1 (shut_bool Try.underlying4 _), (trodAll_cons_mk (Below.trod laidOut (by kernel_rfl) (of_decide_eq_true (by kernel_rfl)) k0 bel lt0) (trodAll_cons_mk (shut_int Try.underlying3 w1) trodAll_mk0)), rfl, bel.frame _, fun h => by cases h⟩

theorem over : Rows.frameBackRow.holds Try.pinned (OpenSpec.ofChange Rows.frameBackSpec) :=
  OpenClaim.holds_of_wide 8 Try.f8 rfl rfl rfl rfl rfl rfl rfl ⟨rfl, rfl, rfl, rfl, rfl⟩ rfl rfl rfl rfl rfl (by kernel_rfl) Try.func8 (by kernel_rfl)
    (of_decide_eq_true (by kernel_rfl)) (by unfold Func.isWrapper; first | (rw [if_pos (by decide +kernel)]; kernel_rfl) | (rw [if_neg (by decide +kernel)]; exact ⟨rfl, rfl⟩))
    (fun os started H enc _ => lifted os started H enc)

theorem proved : Rows.FrameBackSaid := over
#print axioms proved
end Go.Proofs.Ytfmjlkgbaanlhaa.frameBack
