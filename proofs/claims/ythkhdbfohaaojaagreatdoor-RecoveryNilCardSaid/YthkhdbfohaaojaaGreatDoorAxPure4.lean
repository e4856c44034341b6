/-
  The one law over all operations that read no memory.
-/
import Derived.Test.YthkhdbfohaaojaaGreatDoorAxPure3
namespace Go.Proofs.YthkhdbfohaaojaaGreatDoor.Ax
open Go.RowKit
set_option linter.unusedVariables false
set_option linter.unusedSimpArgs false

section
variable {P : Program} {g : Gm} {env : Nat → Value} {t : Tr RV} {ρ : Operand → Value}
theorem len_pures {ty tt : TypeId} {r r' : RV} {v : Value} (h : lenR P ty r = some r') (hr : R g env r v) : Pures P g env (Builtin.len_ #[ty] tt #[v]) r' := by
  unfold lenR at h
  split at h <;> try cases h
  · rename_i l hu
    rw [forceN_eq] at h
    cases h
    cases hr with
    | str hl =>
      refine ⟨_, fun w => ?_, .lit _⟩
      simp [Builtin.len_, run_underlying hu, size_ofCodes, goInt]
  · rename_i hu
    cases hr with
    | sl hq hc hn =>
      refine ⟨_, fun w => ?_, .lit _⟩
      simp [Builtin.len_, run_underlying hu, goInt]
  · rename_i hu
    cases hr with
    | s0 hq =>
      refine ⟨_, fun w => ?_, .lit _⟩
      simp [Builtin.len_, run_underlying hu, goInt]
  · rename_i hu
    cases hr with
    | se a cap =>
      refine ⟨_, fun w => ?_, .lit _⟩
      simp [Builtin.len_, run_underlying hu, goInt]
  · rename_i hu
    cases hr
    refine ⟨_, fun w => ?_, .lit _⟩
    simp [Builtin.len_, run_underlying hu, goInt]
  · rename_i hu
    refine ⟨_, fun w => ?_, .lit _⟩
    simp [Builtin.len_, run_underlying hu, goInt]
  · rename_i hu
    cases hr
    refine ⟨_, fun w => ?_, .lit _⟩
    simp [Builtin.len_, run_underlying hu, goInt]
theorem iface_pures {ty : TypeId} {r r' : RV} {v : Value} (h : ifaceR P ty r = some r') (hr : R g env r v) : Pures P g env (Instr.makeInterface ty v) r' := by
  unfold ifaceR at h
  split at h <;> try cases h
  rename_i d hd hu
  refine ⟨.iface ty v, fun w => ?_, .ifc hr⟩
  unfold Instr.makeInterface
  rw [Sem.run_bind, run_underlying hu w]
  cases d <;> first | exact absurd rfl (hd _) | rfl
theorem run_isAgg {e : TypeId} {d : TypeDesc} (hu : P.underlying e = some d) (w : World) : (isAgg e).run P w = .ok d.isRow w := by
  unfold isAgg
  rw [Sem.run_bind, run_underlying hu w]
  cases d <;> rfl
/-- a part of an aggregate -/
theorem part_pures {e : TypeId} {d : TypeDesc} {i : TypeInfo} {cs : List RV} {off : Nat} {r' : RV} {arr : Array Value} (hu : P.underlying e = some d) (hi : P.info? e = some i) (h : (if d.isRow then takeO i.size (dropR cs off) fun l => some (RV.agg l) else nthR cs off) = some r') (hr : RL g env cs arr.toList) : Pures P g env (part e arr off) r' := by
  have hlen : cs.length = arr.size := by have := hr.len; simpa using this
  split at h
  · rename_i hd
    rw [dropR_eq] at h
    obtain ⟨h1, h2⟩ := takeO_some h
    cases h2
    rw [List.length_drop] at h1
    have hrl := (hr.drop off).take i.size
    have hex : (arr.extract off (off + i.size)).toList = (arr.toList.drop off).take i.size := by
      rw [Array.toList_extract]
      simp [List.extract]
    refine ⟨.agg (arr.extract off (off + i.size)), fun w => ?_, .agg ?_ fun j k1 k2 => ?_⟩
    · unfold part
      rw [Sem.run_bind, run_isAgg hu w]
      simp [hd, sizeOf, typeInfo, hi]
    · have := hrl.len
      simp at this ⊢
      omega
    · have k2' : j < ((arr.toList.drop off).take i.size).length := by
        simp at k2 ⊢
        omega
      have := hrl.at_ j k1 k2'
      have e : (arr.extract off (off + i.size))[j] = ((arr.toList.drop off).take i.size)[j] := by
        rw [← Array.getElem_toList k2]
        apply Option.some.inj
        rw [← List.getElem?_eq_getElem, ← List.getElem?_eq_getElem, hex]
      rw [e]
      exact this
  · rename_i hd
    rw [nthR_eq] at h
    have h1 := (List.getElem?_eq_some_iff.1 h).1
    have h2 := (List.getElem?_eq_some_iff.1 h).2
    have h3 : off < arr.size := by omega
    refine ⟨arr[off], fun w => ?_, by rw [← h2]; exact hr.at_ off h1 (by simpa using h3)⟩
    unfold part
    rw [Sem.run_bind, run_isAgg hu w]
    simp [hd, h3]
theorem agg_cells {r : RV} {l : List RV} {v : Value} (hc : cellsR r = some l) (hr : R g env r v) (ha : ∃ cs, v = .agg cs) : ∃ cs, v = .agg cs ∧ RL g env l cs.toList := by
  obtain ⟨cs, rfl⟩ := ha
  exact ⟨cs, rfl, cellsR_R hc hr⟩
theorem aggField_pures {ty : TypeId} {r r' : RV} {f : Nat} {v : Value} (h : aggFieldR P ty r f = some r') (hr : R g env r v) (hag : isAggR r = true) : Pures P g env (Instr.field ty v f) r' := by
  unfold aggFieldR at h
  split at h <;> try cases h
  rename_i fields cs hu hc
  split at h <;> try cases h
  rename_i fl hfl
  split at h <;> try cases h
  rename_i d i hd hi
  have hagg : ∃ arr, v = .agg arr := by
    cases hr with
    | agg hn hh => exact ⟨_, rfl⟩
    | lit v => cases v <;> first | exact ⟨_, rfl⟩ | exact absurd hag (by simp [isAggR])
    | _ => exact absurd hag (by simp [isAggR])
  obtain ⟨arr, rfl, hrl⟩ := agg_cells hc hr hagg
  obtain ⟨u, h1, h2⟩ := part_pures hd hi h hrl
  refine ⟨u, fun w => ?_, h2⟩
  simp [Instr.field, run_underlying hu, hfl, asAgg, h1 w]
theorem idx_pures {ty : TypeId} {r ix r' : RV} {v u : Value} (h : idxR P ty r ix = some r') (hr : R g env r v) (hx : R g env ix u) : Pures P g env (Instr.index ty v u) r' := by
  unfold idxR at h
  split at h <;> try cases h
  · rename_i l k n hu
    split at h <;> try cases h
    rename_i b hb
    rw [nthN_eq] at hb
    cases hx
    cases hr with
    | str hl =>
      have hlt := (List.getElem?_eq_some_iff.1 hb).1
      have hbe := (List.getElem?_eq_some_iff.1 hb).2
      have hb256 := hl b (by rw [← hbe]; exact List.getElem_mem hlt)
      refine ⟨_, fun w => ?_, .lit _⟩
      have hget : (ofCodes l)[n]? = some (UInt8.ofNat b) := by
        have hs : n < (ofCodes l).size := by rw [size_ofCodes]; exact hlt
        rw [ByteArray.getElem?_lt' _ _ hs]
        congr 1
        show (ofCodes l).data[n] = _
        simp [ofCodes, hbe]
      simp [Instr.index, asIntOf, run_underlying hu, hget, hb256]
      omega
  · rename_i len e cs k n hu
    split at h <;> try cases h
    rename_i d i hd hi
    cases hb : Nat.ble (n + 1) len with
    | false => rw [hb] at h; cases h
    | true =>
      rw [hb, cond_true] at h
      have hlt := Nat.le_of_ble_eq_true hb
      cases hx
      cases hr with
      | agg hn hh =>
        rename_i arr
        obtain ⟨u, h1, h2⟩ := part_pures (arr := arr) hd hi h ⟨by simpa using hn, fun i k1 k2 => by simpa using hh i k1 (by simpa using k2)⟩
        refine ⟨u, fun w => ?_, h2⟩
        have hlt' : n < len := hlt
        simp [Instr.index, asIntOf, run_underlying hu, hlt', sizeOf, typeInfo, hi, h1 w]
theorem conv_pures {src dst : TypeId} {r r' : RV} {v : Value} (h : convR P src dst r = some r') (hr : R g env r v) : Pures P g env (convert src dst v) r' := by
  unfold convR at h
  split at h <;> try cases h
  · cases hr
    exact flat_pures h
  · split at h <;> try cases h
    rename_i h1 h2
    cases hr with
    | str hl =>
      refine ⟨_, fun w => ?_, .str hl⟩
      simp [convert, run_underlying h1, run_underlying h2]
theorem assert_pures {r r' : RV} {xt as : TypeId} {ok : Bool} {v : Value} (h : assertR P r as ok = some r') (hr : R g env r v) : Pures P g env (Instr.typeAssert v xt as ok) r' := by
  unfold assertR at h
  split at h <;> try cases h
  rename_i d ty r0 hni hu
  cases hb : Nat.beq ty as with
  | false => rw [hb] at h; cases h
  | true =>
    rw [hb, cond_true] at h
    have := Nat.eq_of_beq_eq_true hb
    subst this
    cases hr with
    | ifc hv =>
      rename_i u
      split at h <;> cases h
      · refine ⟨.tuple #[u, .bool true], fun w => ?_, .tup rfl fun i h1 h2 => ?_⟩
        · unfold Instr.typeAssert
          rw [Sem.run_bind, run_underlying hu w]
          cases d <;> first | exact absurd rfl (hni _) | simp
        · rcases i with _ | _ | i
          · exact hv
          · exact .lit _
          · simp at h1
            omega
      · refine ⟨u, fun w => ?_, hv⟩
        unfold Instr.typeAssert
        rw [Sem.run_bind, run_underlying hu w]
        cases d <;> first | exact absurd rfl (hni _) | simp
theorem extract_pures {r r' : RV} {v : Value} {i : Nat} (hf : extractR r i = some r') (hr : R g env r v) : Pures P g env (Instr.extract v i) r' := by
  unfold extractR at hf
  split at hf <;> try cases hf
  · rename_i l
    rw [nthR_eq] at hf
    cases hr with
    | tup hn hh =>
      rename_i vs
      have h1 := (List.getElem?_eq_some_iff.1 hf).1
      have e := (List.getElem?_eq_some_iff.1 hf).2
      have hv : vs[i]? = some (vs[i]'(by omega)) := Array.getElem?_eq_getElem (by omega)
      refine ⟨vs[i]'(by omega), fun w => ?_, by rw [← e]; exact hh i h1 (by omega)⟩
      simp [Instr.extract, hv]
  · rename_i vs
    cases hr
    split at hf <;> try cases hf
    rename_i u hv
    refine ⟨u, fun w => ?_, ofV_R _ _ _⟩
    simp [Instr.extract, hv]
theorem nilCheck_next {r r' : RV} {v : Value} (hf : nilCheckR r = some r') (hr : R g env r v) : R g env r' v ∧ ((∃ a, v = .pointer (some a)) ∨ ∃ f a b, v = .func (.func f) a b) := by
  unfold nilCheckR at hf
  split at hf <;> cases hf
  · cases hr with
    | ptr h => exact ⟨.ptr h, .inl ⟨_, rfl⟩⟩
  · cases hr with
    | clo h1 h2 h3 h4 => exact ⟨.clo h1 h2 h3 h4, .inr ⟨_, _, _, rfl⟩⟩
  · cases hr
    exact ⟨.lit _, .inl ⟨_, rfl⟩⟩
  · cases hr
    exact ⟨.lit _, .inr ⟨_, _, _, rfl⟩⟩
theorem flat2_pures {m : Value → Value → Sem Value} {a b r : RV} {u v : Value} (h : flat2 P m a b = some r) (ha : R g env a u) (hb : R g env b v) : Pures P g env (m u v) r := by
  unfold flat2 at h
  split at h <;> try cases h
  rename_i u' v' h1 h2
  rw [litV_eq h1 ha, litV_eq h2 hb]
  exact flat_pures h
theorem run_sliceData {ts : Array TypeId} {ty : TypeId} {a : Addr} {n c : Nat} (h : c ≠ 0) (w : World) : (Builtin.unsafeSliceData_ ts ty #[.slice (some a) n c]).run P w = .ok (.pointer (some a)) w := by
  show Sem.run P (if c ≠ 0 then pure (Value.pointer (some a)) else _) w = _
  rw [if_pos h]
  rfl
theorem run_sliceData_nil {ts : Array TypeId} {ty : TypeId} (w : World) : (Builtin.unsafeSliceData_ ts ty #[.slice none 0 0]).run P w = .ok (.pointer none) w := rfl
/-- the value of an operation -/
def Vals (P : Program) (g : Gm) (env : Nat → Value) (m : Sem Next) (r : RV) : Prop := ∃ v, (∀ w, m.run P w = .ok (.value v) w) ∧ R g env r v
theorem Pures.vals {m : Sem Value} {r : RV} (h : Pures P g env m r) : Vals P g env (do pure (Next.value (← m))) r := by
  obtain ⟨v, h1, h2⟩ := h
  refine ⟨v, fun w => ?_, h2⟩
  rw [Sem.run_bind, h1 w]
  rfl
theorem RL.map {l : List Operand} (h : ∀ x ∈ l, R g env (evalR t x) (ρ x)) : RL g env (l.map (evalR t)) (l.map ρ) :=
  ⟨by simp, fun i h1 h2 => by
    rw [List.getElem_map, List.getElem_map]
    exact h _ (List.getElem_mem _)⟩
theorem pure_sound {o : Oper} {r : RV} (h : pureR P t o = some r) (hρ : ∀ x ∈ o.op.operands, R g env (evalR t x) (ρ x)) : Vals P g env (execOp ρ o) r := by
  obtain ⟨dst, op, type, pos, after, guard⟩ := o
  unfold pureR at h
  simp only at h hρ
  split at h <;> try cases h
  · exact ⟨_, fun w => rfl, hρ _ (by simp [Op.operands])⟩
  · exact ⟨_, fun w => rfl, hρ _ (by simp [Op.operands])⟩
  · rename_i c a b
    have hc := hρ c (by simp [Op.operands])
    split at h <;> try cases h
    · rename_i e
      rw [e] at hc
      generalize hcv : ρ c = cv at hc
      cases hc
      refine ⟨ρ a, fun w => ?_, hρ a (by simp [Op.operands])⟩
      simp [execOp, hcv, asBool]
    · rename_i e
      rw [e] at hc
      generalize hcv : ρ c = cv at hc
      cases hc
      refine ⟨ρ b, fun w => ?_, hρ b (by simp [Op.operands])⟩
      simp [execOp, hcv, asBool]
  · rename_i ty parts
    exact (build_pures (ρ := ρ) (fun p hp => hρ p.2 (by simp only [Op.operands, List.mem_toArray, List.mem_map]; exact ⟨p, hp, rfl⟩)) h).vals
  · rename_i x
    obtain ⟨h1, h2⟩ := nilCheck_next h (hρ x (by simp [Op.operands]))
    refine ⟨ρ x, fun w => ?_, h1⟩
    rcases h2 with ⟨a, h2⟩ | ⟨f, a, b, h2⟩ <;> simp [execOp, h2]
  · rename_i op ty x y yt
    exact (bin_pures h (hρ x (by simp [Op.operands])) (hρ y (by simp [Op.operands]))).vals
  · rename_i op ty x
    split at h <;> try cases h
    rename_i v hv
    have := litV_eq hv (hρ x (by simp [Op.operands]))
    have h2 := (flat_pures (g := g) (env := env) h).vals
    rw [← this] at h2
    exact h2
  · exact (conv_pures h (hρ _ (by simp [Op.operands]))).vals
  · exact (iface_pures h (hρ _ (by simp [Op.operands]))).vals
  · rename_i f first captured
    have h1 : RL g env (first.toList.map (evalR t)) (first.toList.map ρ) := RL.map fun x hx => hρ x (by simp only [Op.operands, Array.mem_append]; exact .inl (by simpa using hx))
    have h2 : RL g env (captured.toList.map (evalR t)) (captured.toList.map ρ) := RL.map fun x hx => hρ x (by simp only [Op.operands, Array.mem_append]; exact .inr (by simpa using hx))
    refine ⟨.func (.func f) (first.map ρ) (captured.map ρ), fun w => ?_, .clo (by simp) (fun i k1 k2 => ?_) (by simp) fun i k1 k2 => ?_⟩
    · simp [execOp, Instr.makeFunc]
    · have := h1.at_ i k1 (by simpa using k2)
      simpa using this
    · have := h2.at_ i k1 (by simpa using k2)
      simpa using this
  · rename_i ty x lo hi mx
    exact (slice_pures (v := ρ x) h (hρ x (by simp [Op.operands])) (OR.map fun y hy => hρ y (by simp [Op.operands] at hy ⊢; simp [hy])) (OR.map fun y hy => hρ y (by simp [Op.operands] at hy ⊢; simp [hy])) (OR.map fun y hy => hρ y (by simp [Op.operands] at hy ⊢; simp [hy]))).vals
  · exact (does_field h (hρ _ (by simp [Op.operands]))).vals
  · rename_i ty x f
    cases hb : isAggR (evalR t x) with
    | false => rw [hb] at h; cases h
    | true =>
      rw [hb, cond_true] at h
      exact (aggField_pures h (hρ x (by simp [Op.operands])) hb).vals
  · exact (does_index h (hρ _ (by simp [Op.operands])) (hρ _ (by simp [Op.operands]))).vals
  · exact (idx_pures h (hρ _ (by simp [Op.operands])) (hρ _ (by simp [Op.operands]))).vals
  · exact (assert_pures h (hρ _ (by simp [Op.operands]))).vals
  · exact (extract_pures h (hρ _ (by simp [Op.operands]))).vals
  · rename_i b args argTypes
    have hargs : ∀ x ∈ args, R g env (evalR t x) (ρ x) := fun x hx => hρ x (by simp [Op.operands, Call.operands, hx])
    split at h <;> try cases h
    · rename_i x ty e1 e2
      have ea : args = #[x] := by rw [← Array.toArray_toList (xs := args), e1]
      have et : argTypes = #[ty] := by rw [← Array.toArray_toList (xs := argTypes), e2]
      subst ea et
      have h2 := (len_pures (tt := type) h (hargs x (by simp))).vals
      obtain ⟨v, k1, k2⟩ := h2
      exact ⟨v, fun w => by simpa [execOp, resolve, invoke, builtin] using k1 w, k2⟩
    · rename_i tys x e1
      have ea : args = #[x] := by rw [← Array.toArray_toList (xs := args), e1]
      subst ea
      have hx := hargs x (by simp)
      split at h <;> try cases h
      · rename_i G e off n s ex
        rw [ex] at hx
        cases hb : Nat.ble 1 n with
        | false => rw [hb] at h; cases h
        | true =>
          rw [hb, cond_true] at h
          cases h
          have hn := Nat.le_of_ble_eq_true hb
          generalize hxv : ρ x = xv at hx
          cases hx with
          | sl hq hc hs =>
            rename_i q n0 cap
            have hne : ¬ (cap = 0) := by omega
            refine ⟨.pointer (some ⟨q, off, none⟩), fun w => ?_, .ptr hq⟩
            simp [execOp, resolve, invoke, builtin, hxv, run_sliceData hne]
      · rename_i ex
        rw [ex] at hx
        generalize hxv : ρ x = xv at hx
        cases hx
        refine ⟨.pointer none, fun w => ?_, .lit _⟩
        simp [execOp, resolve, invoke, builtin, hxv, run_sliceData_nil]
    · rename_i tys x y e1
      have ea : args = #[x, y] := by rw [← Array.toArray_toList (xs := args), e1]
      subst ea
      obtain ⟨v, k1, k2⟩ := (flat2_pures h (hargs x (by simp)) (hargs y (by simp))).vals
      exact ⟨v, fun w => by simpa [execOp, resolve, invoke, builtin] using k1 w, k2⟩
    · rename_i tys x y e1
      have ea : args = #[x, y] := by rw [← Array.toArray_toList (xs := args), e1]
      subst ea
      obtain ⟨v, k1, k2⟩ := (flat2_pures h (hargs x (by simp)) (hargs y (by simp))).vals
      exact ⟨v, fun w => by simpa [execOp, resolve, invoke, builtin] using k1 w, k2⟩
end
end Go.Proofs.YthkhdbfohaaojaaGreatDoor.Ax
