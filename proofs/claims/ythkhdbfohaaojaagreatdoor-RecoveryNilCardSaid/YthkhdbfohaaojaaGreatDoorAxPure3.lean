/-
  Structs put together, slices, lengths, and the one law over all operations that read no memory.
-/
import Derived.Test.YthkhdbfohaaojaaGreatDoorAxPure2
namespace Go.Proofs.YthkhdbfohaaojaaGreatDoor.Ax
open Go.RowKit
set_option linter.unusedVariables false
set_option linter.unusedSimpArgs false

theorem set_over {α : Type} (l vs : List α) (o : Nat) (v : α) (n : Nat) (h : o < l.length) : (l.set o v).take (o + 1) ++ vs ++ (l.set o v).drop (o + 1 + n) = l.take o ++ (v :: vs) ++ l.drop (o + (n + 1)) := by
  apply List.ext_getElem?
  intro j
  have hto : (l.take o).length = o := by rw [List.length_take]; omega
  have ht1 : ((l.set o v).take (o + 1)).length = o + 1 := by rw [List.length_take, List.length_set]; omega
  rcases Nat.lt_or_ge j o with hj | hj
  · rw [List.append_assoc, List.append_assoc, List.getElem?_append_left (by omega), List.getElem?_append_left (by omega), List.getElem?_take, List.getElem?_take, if_pos (by omega), if_pos hj, List.getElem?_set_ne (by omega)]
  · rcases Nat.eq_or_lt_of_le hj with rfl | hj'
    · rw [List.append_assoc, List.append_assoc, List.getElem?_append_left (by omega), List.getElem?_append_right (by omega), hto, Nat.sub_self, List.getElem?_take, if_pos (by omega), List.getElem?_set_self (by omega)]
      rfl
    · rw [List.append_assoc, List.append_assoc, List.getElem?_append_right (l₁ := (l.set o v).take (o + 1)) (by rw [ht1]; omega), List.getElem?_append_right (l₁ := l.take o) (by rw [hto]; omega), ht1, hto]
      have e2 : j - o = (j - (o + 1)) + 1 := by omega
      rw [e2, List.cons_append, List.getElem?_cons_succ]
      rcases Nat.lt_or_ge (j - (o + 1)) vs.length with hk | hk
      · rw [List.getElem?_append_left hk, List.getElem?_append_left hk]
      · rw [List.getElem?_append_right hk, List.getElem?_append_right hk, List.getElem?_drop, List.getElem?_drop, List.getElem?_set_ne (by omega)]
        congr 1
        omega
theorem fold_over (off : Nat) : ∀ (vs : List Value) (k : Nat) (arr : Array Value), off + k + vs.length ≤ arr.size → ((vs.zipIdx k).foldl (fun cs (c, j) => cs.setIfInBounds (off + j) c) arr).toList = arr.toList.take (off + k) ++ vs ++ arr.toList.drop (off + k + vs.length)
  | [], k, arr, h => by simp
  | v :: vs, k, arr, h => by
    simp only [List.length_cons] at h
    rw [List.zipIdx_cons, List.foldl_cons, fold_over off vs (k + 1) _ (by simp; omega), Array.toList_setIfInBounds]
    have := set_over arr.toList vs (off + k) v vs.length (by simp; omega)
    rw [List.length_cons]
    exact this
section
variable {P : Program} {g : Gm} {env : Nat → Value} {t : Tr RV} {ρ : Operand → Value}
theorem fill_R {β : Type} (place : Nat → Option (Nat × Nat)) : ∀ (parts : List (Nat × Operand)) (cs : List RV) (arr : Array Value) (k : List RV → Option β) (y : β), RL g env cs arr.toList → (∀ p ∈ parts, R g env (evalR t p.2) (ρ p.2)) → fillR place (parts.map fun p => (p.1, evalR t p.2)) cs k = some y →
    ∃ cs' arr', k cs' = some y ∧ Instr.fill place arr (parts.map fun p => (p.1, ρ p.2)) = some arr' ∧ RL g env cs' arr'.toList
  | [], cs, arr, k, y, hc, _, hs => ⟨cs, arr, hs, rfl, hc⟩
  | (i, x) :: rest, cs, arr, k, y, hc, hp, hs => by
    simp only [List.map_cons, fillR] at hs
    split at hs <;> try cases hs
    rename_i off size hpl
    split at hs <;> try cases hs
    rename_i l' hl
    cases hb : Nat.beq l'.length size with
    | false => rw [hb] at hs; cases hs
    | true =>
      rw [hb, cond_true] at hs
      have h1 := Nat.eq_of_beq_eq_true hb
      obtain ⟨h2, h3⟩ := overO_some hs
      have hx := cellsR_R hl (hp (i, x) List.mem_cons_self)
      have hsz : (ρ x).cells.size = size := by have := hx.len; simp at this; omega
      have hal : arr.size = cs.length := by have := hc.len; simp at this; omega
      have hfold := fold_over off (ρ x).cells.toList 0 arr (by simp; omega)
      simp only [Nat.add_zero] at hfold
      have hlen : (ρ x).cells.toList.length = l'.length := hx.len.symm
      have hnew : RL g env (cs.take off ++ l' ++ cs.drop (off + l'.length)) (((ρ x).cells.toList.zipIdx 0).foldl (fun cs (c, j) => cs.setIfInBounds (off + j) c) arr).toList := by
        rw [hfold, hlen]
        exact ((hc.take off).append hx).append (hc.drop (off + l'.length))
      obtain ⟨cs', arr', e0, e1, e2⟩ := fill_R place rest _ _ k y hnew (fun p hp' => hp p (List.mem_cons_of_mem _ hp')) h3
      refine ⟨cs', arr', e0, ?_, e2⟩
      rw [← e1]
      simp only [List.map_cons, Instr.fill, hpl]
      rw [if_neg (by simp [hsz]; omega)]
      congr 1
      rw [← Array.foldl_toList, Array.toList_zipIdx]
theorem build_pures {ty : TypeId} {parts : Array (Nat × Operand)} {r : RV} (hp : ∀ p ∈ parts.toList, R g env (evalR t p.2) (ρ p.2)) (hs : buildR P ty (parts.toList.map fun p => (p.1, evalR t p.2)) = some r) : Pures P g env (Instr.build ty (parts.map fun (i, x) => (i, ρ x))) r := by
  have hparts : (parts.map fun (i, x) => (i, ρ x)).toList = parts.toList.map fun p => (p.1, ρ p.2) := by simp
  unfold buildR at hs
  split at hs <;> try cases hs
  · rename_i i fields hi hu
    split at hs <;> try cases hs
    rename_i z hz
    split at hs <;> try cases hs
    rename_i places hpl
    obtain ⟨cs', arr', h1, e1, e2⟩ := fill_R _ parts.toList _ z.cells _ _ (RL.lits _) hp hs
    cases h1
    refine ⟨.agg arr', fun w => ?_, .agg (by simpa using e2.len) (fun j k1 k2 => e2.at_ j k1 (by simpa using k2))⟩
    unfold Instr.build
    rw [hparts]
    have hpl := evalP_run hpl w
    simp only [bind_pure_comp] at hpl
    simp [zeroValue, typeInfo, hi, hz, run_underlying hu, hpl, e1]
  · rename_i i m elem hi hu
    split at hs <;> try cases hs
    rename_i z j hz hj
    obtain ⟨cs', arr', h1, e1, e2⟩ := fill_R _ parts.toList _ z.cells _ _ (RL.lits _) hp hs
    cases h1
    refine ⟨.agg arr', fun w => ?_, .agg (by simpa using e2.len) (fun j k1 k2 => e2.at_ j k1 (by simpa using k2))⟩
    unfold Instr.build
    rw [hparts]
    simp [zeroValue, sizeOf, typeInfo, hi, hz, hj, run_underlying hu, e1]
/-- a part that may be left out -/
inductive OR (g : Gm) (env : Nat → Value) : Option RV → Option Value → Prop
  | none : OR g env none none
  | some {r : RV} {v : Value} (h : R g env r v) : OR g env (some r) (some v)
theorem OR.map {x : Option Operand} (h : ∀ y ∈ x.toArray, R g env (evalR t y) (ρ y)) : OR g env (x.map (evalR t)) (x.map ρ) := by
  cases x with
  | none => exact .none
  | some y => exact .some (h y (by simp))
theorem bound_of {r : Option RV} {v : Option Value} {d n : Nat} (hb : boundR d r = some n) (hr : OR g env r v) : (r = none ∧ v = none ∧ n = d) ∨ (∃ r', r = some r') ∧ ∃ k, v = some (.int k (Int.ofNat n)) := by
  cases hr with
  | none => cases hb; exact .inl ⟨rfl, rfl, rfl⟩
  | some h =>
    unfold boundR at hb
    split at hb
    · rename_i e
      cases e
    · rename_i k m e
      cases e
      cases hb
      cases h
      exact .inr ⟨⟨_, rfl⟩, k, rfl⟩
    · cases hb
theorem run_bound {k : IntKind} {n y : Nat} {code : BoundsCode} (h : n ≤ y) (w : World) : (Instr.sliceBound (.int k (Int.ofNat n)) y code).run P w = .ok n w := by
  simp [Instr.sliceBound, asIntOf, h]
theorem bounds2 {len cap l k : Nat} {b : Bool} {lo hi : Option Value} (hl : (lo = none ∧ l = 0) ∨ ∃ q, lo = some (.int q (Int.ofNat l))) (hk : (hi = none ∧ k = len) ∨ ∃ q, hi = some (.int q (Int.ofNat k))) (h1 : l ≤ k) (h2 : k ≤ cap) (w : World) : (Instr.sliceBounds b len cap lo hi none).run P w = .ok (l, k, cap) w := by
  rcases hl with ⟨rfl, rfl⟩ | ⟨q, rfl⟩ <;> rcases hk with ⟨rfl, rfl⟩ | ⟨q', rfl⟩
  · simp [Instr.sliceBounds]
  · simp only [Instr.sliceBounds, Sem.run_bind, Sem.run_pure, Result.andThen_ok, run_bound h2]
  · simp only [Instr.sliceBounds, Sem.run_bind, Sem.run_pure, Result.andThen_ok, run_bound h1]
  · simp only [Instr.sliceBounds, Sem.run_bind, Sem.run_pure, Result.andThen_ok, run_bound h1, run_bound h2]
theorem bounds3 {len cap l k x : Nat} {b : Bool} {lo : Option Value} {q' q'' : IntKind} (hl : (lo = none ∧ l = 0) ∨ ∃ q, lo = some (.int q (Int.ofNat l))) (h1 : l ≤ k) (h2 : k ≤ x) (h3 : x ≤ cap) (w : World) : (Instr.sliceBounds b len cap lo (some (.int q' (Int.ofNat k))) (some (.int q'' (Int.ofNat x)))).run P w = .ok (l, k, x) w := by
  rcases hl with ⟨rfl, rfl⟩ | ⟨q, rfl⟩
  · simp only [Instr.sliceBounds, Sem.run_bind, Sem.run_pure, Result.andThen_ok, run_bound h2, run_bound h3]
  · simp only [Instr.sliceBounds, Sem.run_bind, Sem.run_pure, Result.andThen_ok, run_bound h1, run_bound h2, run_bound h3]
theorem slice_pures {ty : TypeId} {r r' : RV} {lo hi mx : Option RV} {v : Value} {vl vh vm : Option Value} (hf : sliceR P ty r lo hi mx = some r') (hr : R g env r v) (hl : OR g env lo vl) (hh : OR g env hi vh) (hm : OR g env mx vm) : Pures P g env (Instr.sliceAt ty v vl vh vm) r' := by
  have two : ∀ {len l k : Nat}, boundR 0 lo = some l → boundR len hi = some k → ((vl = none ∧ l = 0) ∨ ∃ q, vl = some (.int q (Int.ofNat l))) ∧ ((vh = none ∧ k = len) ∨ ∃ q, vh = some (.int q (Int.ofNat k))) := fun k1 k2 => by
    constructor
    · rcases bound_of k1 hl with ⟨_, a, b⟩ | ⟨_, q, a⟩
      · exact .inl ⟨a, b⟩
      · exact .inr ⟨q, a⟩
    · rcases bound_of k2 hh with ⟨_, a, b⟩ | ⟨_, q, a⟩
      · exact .inl ⟨a, b⟩
      · exact .inr ⟨q, a⟩
  unfold sliceR at hf
  split at hf <;> try cases hf
  · rename_i e ht
    split at hf <;> try cases hf
    rename_i i hi'
    split at hf <;> try cases hf
    · rename_i G m off len sz
      split at hf <;> try cases hf
      rename_i l k hlo hhi
      obtain ⟨hl2, hk2⟩ := two hlo hhi
      cases hb : Nat.beq sz i.size && Nat.ble l k && Nat.ble k len with
      | false => rw [hb] at hf; cases hf
      | true =>
        rw [hb, cond_true] at hf
        rw [Bool.and_eq_true, Bool.and_eq_true] at hb
        obtain ⟨⟨b1, b2⟩, b3⟩ := hb
        have hsz := Nat.eq_of_beq_eq_true b1
        have h1 := Nat.le_of_ble_eq_true b2
        have h2 := Nat.le_of_ble_eq_true b3
        cases hr with
        | sl hq hc hn =>
        rename_i q n cap
        have hmul : ∀ y, l ≤ y → y ≤ cap → off + l * sz + (y - l) * sz ≤ n := fun y hy1 hy2 => by
          have e : (y - l) * sz = y * sz - l * sz := Nat.sub_mul _ _ _
          have e2 := Nat.mul_le_mul_right sz hy1
          have e3 := Nat.mul_le_mul_right sz hy2
          omega
        split at hf
        · cases hm
          have hrun : ∀ w, (Instr.sliceAt ty (.slice (some ⟨q, off, none⟩) len cap) vl vh none).run P w = .ok (.slice (if cap = l then some ⟨q, off, none⟩ else some (Addr.add ⟨q, off, none⟩ (l * i.size))) (k - l) (cap - l)) w := fun w => by
            have hm := bounds2 (P := P) (b := true) hl2 hk2 h1 (Nat.le_trans h2 hc) w
            simp [Instr.sliceAt, run_underlying ht, Instr.slice, hm, sizeOf, typeInfo, hi']
          cases hz : Nat.ble (l + 1) len || Nat.beq l 0 with
          | true =>
            rw [hz, cond_true, forceN_eq, forceN_eq] at hf
            cases hf
            have hif : (if cap = l then (some ⟨q, off, none⟩ : Option Addr) else some (Addr.add ⟨q, off, none⟩ (l * i.size))) = some ⟨q, off + l * sz, none⟩ := by
              rw [hsz]
              split
              · rcases Bool.or_eq_true_iff.1 hz with h3 | h3
                · have := Nat.le_of_ble_eq_true h3
                  omega
                · have := Nat.eq_of_beq_eq_true h3
                  subst this
                  simp
              · rw [add_off]
            refine ⟨_, hrun, ?_⟩
            rw [hif]
            exact .sl hq (by omega) (hmul cap (by omega) (Nat.le_refl _))
          | false =>
            rw [hz, cond_false] at hf
            cases hf
            refine ⟨_, hrun, ?_⟩
            have hk0 : k - l = 0 := by
              rw [Bool.or_eq_false_iff] at hz
              have : ¬ (l + 1 ≤ len) := fun hh => by
                rw [Nat.ble_eq_true_of_le hh] at hz
                cases hz.1
              omega
            rw [hk0]
            split <;> exact .se _ _
        · rename_i kk x
          split at hf <;> try cases hf
          rename_i r0
          cases hz : Nat.ble k x && Nat.ble x len with
          | false => rw [hz] at hf; cases hf
          | true =>
            rw [hz, cond_true] at hf
            rw [Bool.and_eq_true] at hz
            have h3 := Nat.le_of_ble_eq_true hz.1
            have h4 := Nat.le_of_ble_eq_true hz.2
            cases hm with
            | some hm' =>
            cases hm'
            rcases bound_of hhi hh with ⟨e0, _, _⟩ | ⟨_, q', rfl⟩
            · cases e0
            have hrun : ∀ w, (Instr.sliceAt ty (.slice (some ⟨q, off, none⟩) len cap) vl (some (.int q' (Int.ofNat k))) (some (.int kk (Int.ofNat x)))).run P w = .ok (.slice (if x = l then some ⟨q, off, none⟩ else some (Addr.add ⟨q, off, none⟩ (l * i.size))) (k - l) (x - l)) w := fun w => by
              have hm := bounds3 (P := P) (b := true) (len := len) (q' := q') (q'' := kk) hl2 h1 h3 (Nat.le_trans h4 hc) w
              simp only [Int.ofNat_eq_natCast] at hm ⊢
              simp [Instr.sliceAt, run_underlying ht, Instr.slice, hm, sizeOf, typeInfo, hi']
            refine ⟨_, hrun, ?_⟩
            cases hxl : Nat.beq x l with
            | true =>
              rw [hxl, cond_true] at hf
              cases hf
              have := Nat.eq_of_beq_eq_true hxl
              subst this
              have hk0 : k - x = 0 := by omega
              rw [if_pos rfl, hk0, Nat.sub_self]
              exact .s0 hq
            | false =>
              rw [hxl, cond_false, forceN_eq, forceN_eq] at hf
              cases hf
              have hne : ¬ (x = l) := fun e => by
                rw [e, Nat.beq_refl] at hxl
                cases hxl
              rw [if_neg hne, add_off, ← hsz]
              exact .sl hq (by omega) (hmul x (by omega) (by omega))
        · cases hf
    · rename_i G m off
      split at hf <;> try cases hf
      rename_i hlo hhi
      cases hm
      obtain ⟨hl2, hk2⟩ := two hlo hhi
      cases hr with
      | s0 hq =>
        refine ⟨_, fun w => ?_, .s0 hq⟩
        have hm := bounds2 (P := P) (b := true) (len := 0) (cap := 0) hl2 hk2 (Nat.le_refl _) (Nat.le_refl _) w
        simp [Instr.sliceAt, run_underlying ht, Instr.slice, hm, sizeOf, typeInfo, hi']
    · split at hf <;> try cases hf
      rename_i hlo hhi
      cases hm
      obtain ⟨hl2, hk2⟩ := two hlo hhi
      cases hr with
      | se a cap =>
        refine ⟨_, fun w => ?_, .se a cap⟩
        have hm := bounds2 (P := P) (b := true) (len := 0) (cap := cap) hl2 hk2 (Nat.le_refl _) (Nat.zero_le _) w
        simp [Instr.sliceAt, run_underlying ht, Instr.slice, hm, sizeOf, typeInfo, hi', Addr.add]
    · split at hf <;> try cases hf
      rename_i l k hlo hhi
      obtain ⟨hl2, hk2⟩ := two hlo hhi
      cases hr
      cases hb : Nat.beq l 0 && Nat.beq k 0 with
      | false => rw [hb] at hf; cases hf
      | true =>
      rw [hb, cond_true] at hf
      rw [Bool.and_eq_true] at hb
      have hl0 := Nat.eq_of_beq_eq_true hb.1
      have hk0 := Nat.eq_of_beq_eq_true hb.2
      split at hf
      · cases hf
        cases hm
        refine ⟨_, fun w => ?_, .lit _⟩
        have hm := bounds2 (P := P) (b := true) (len := 0) (cap := 0) hl2 hk2 (by omega) (by omega) w
        simp [Instr.sliceAt, run_underlying ht, Instr.slice, hm, sizeOf, typeInfo, hi', hl0, hk0]
      · rename_i kk x
        cases hx : Nat.beq x 0 with
        | false => rw [hx] at hf; cases hf
        | true =>
        rw [hx, cond_true] at hf
        have hx0 := Nat.eq_of_beq_eq_true hx
        split at hf <;> try cases hf
        cases hm with
        | some hm' =>
        cases hm'
        rcases bound_of hhi hh with ⟨e0, _, _⟩ | ⟨_, q', rfl⟩
        · cases e0
        refine ⟨_, fun w => ?_, .lit _⟩
        have hm := bounds3 (P := P) (b := true) (len := 0) (cap := 0) (x := x) (q' := q') (q'' := kk) hl2 (show l ≤ k by omega) (by omega) (by omega) w
        simp only [Int.ofNat_eq_natCast] at hm ⊢
        simp [Instr.sliceAt, run_underlying ht, Instr.slice, hm, sizeOf, typeInfo, hi']
        omega
      · cases hf
  · rename_i ht
    split at hf <;> try cases hf
    rename_i s
    cases hm
    split at hf <;> try cases hf
    rename_i l k hlo hhi
    obtain ⟨hl2, hk2⟩ := two hlo hhi
    cases hb : Nat.ble l k with
    | false => rw [hb] at hf; cases hf
    | true =>
      rw [hb, cond_true] at hf
      have h1 := Nat.le_of_ble_eq_true hb
      split at hf <;> try cases hf
      rename_i s' hs'
      obtain ⟨hd1, hd2⟩ := dropN_some hs'
      obtain ⟨ht1, ht2⟩ := takeN_some hf
      cases ht2
      subst hd2
      rw [List.length_drop] at ht1
      cases hr with
      | str hlt =>
        refine ⟨.string (ofCodes ((s.drop l).take (k - l))), fun w => ?_, .str fun x hx => hlt x (List.mem_of_mem_drop (List.mem_of_mem_take hx))⟩
        have hm := bounds2 (P := P) (b := false) (len := s.length) (cap := s.length) hl2 hk2 h1 (by omega) w
        have hex : (ofCodes s).extract l k = ofCodes ((s.drop l).take (k - l)) := by
          unfold ofCodes
          rw [ByteArray.extract_mk, List.map_take, List.map_drop]
        simp [Instr.sliceAt, run_underlying ht, Instr.slice, size_ofCodes, hm, hex]
end
end Go.Proofs.YthkhdbfohaaojaaGreatDoor.Ax
