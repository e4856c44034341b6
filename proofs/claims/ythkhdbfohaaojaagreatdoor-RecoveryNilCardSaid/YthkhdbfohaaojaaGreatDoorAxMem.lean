/-
  Operations that make a block, and operations that read memory.
-/
import Derived.Test.YthkhdbfohaaojaaGreatDoorAxPure4
namespace Go.Proofs.YthkhdbfohaaojaaGreatDoor.Ax
open Go.RowKit
set_option linter.unusedVariables false
set_option linter.unusedSimpArgs false

theorem forceRs_eq {β : Type} : ∀ (l : List RV) (k : List RV → β), (∀ r ∈ l, ∀ s, r ≠ .lit (.string s)) → forceRs l k = k l
  | [], k, _ => rfl
  | r :: l, k, h => by
    have ih := fun k' => forceRs_eq (β := β) l k' fun r hr => h r (List.mem_cons_of_mem _ hr)
    cases r with
    | lit v =>
      rw [forceRs, forceV_eq, ih]
      have : ofV v = .lit v := by
        cases v with
        | string s => exact absurd rfl (h _ List.mem_cons_self s)
        | _ => rfl
      rw [this]
    | _ => rw [forceRs, ih]; intro v hv; cases hv
def byteVals (l : List Nat) : List Value := l.map fun n => .int .u8 (Int.ofNat n)
theorem byteVals_RL (g : Gm) (env : Nat → Value) (l : List Nat) : RL g env (l.map fun n => .lit (.int .u8 (.ofNat n))) (byteVals l) :=
  ⟨by simp [byteVals], fun i h1 h2 => by
    simp only [byteVals, List.getElem_map]
    exact .lit _⟩
theorem ofCodes_cells {l : List Nat} (h : ∀ x ∈ l, x < 256) : ((ofCodes l).data.map fun b => Value.int .u8 b.toNat) = (byteVals l).toArray := by
  unfold ofCodes byteVals
  apply Array.ext'
  simp only [Array.toList_map, List.map_map, Function.comp_def]
  apply List.map_congr_left
  intro x hx
  have := h x hx
  simp only [UInt8.toNat_ofNat', Value.int.injEq, true_and]
  rw [Nat.mod_eq_of_lt (by omega)]
  rfl
theorem map_range0 (f : Nat → Value) : (Array.range 0).map f = #[] := Array.eq_empty_of_size_eq_zero (by simp)
theorem foldl_size (off : Nat) : ∀ (ys : List (Value × Nat)) (a : Array Value), (ys.foldl (fun cs (c, j) => cs.setIfInBounds (off + j) c) a).size = a.size
  | [], a => rfl
  | y :: ys, a => by rw [List.foldl_cons, foldl_size off ys]; simp
theorem fill_size (place : Nat → Option (Nat × Nat)) : ∀ (l : List (Nat × Value)) (a b : Array Value), Instr.fill place a l = some b → b.size = a.size
  | [], a, b, hab => by cases hab; rfl
  | (i, v) :: l, a, b, hab => by
    unfold Instr.fill at hab
    split at hab <;> try cases hab
    split at hab <;> try cases hab
    rw [fill_size place l _ _ hab, ← Array.foldl_toList, foldl_size]
section
variable {P : Program} {c : Cx} {g : Gm} {h : Hp} {nx nx' : Nat} {w w' : World} {t : Tr RV} {ρ : Operand → Value}
theorem RW.allocG (hw : RW c g h nx w) {G : Nat} {F' : Nat → Option (Nat → Option (Nat × Nat))} (hG : ∀ e, g G e = none) (hres : ∀ x f, F' x = some f → c.F x = some f ∧ x ≠ G) (hnx : nx ≤ nx') (hGn : G < nx') {vs : Array Value} {elem : TypeId} {fz : Nat × Nat} {z : Bool} {cs : List RV}
    (hst : w'.os = w.os ∧ w'.tape = w.tape ∧ w'.output = w.output ∧ w'.heap.size = w.heap.size + 1) (hold : ∀ q, q < w.heap.size → w'.heap[q]? = w.heap[q]?) (hnew : w'.heap[w.heap.size]? = some (.cells vs elem fz)) (hz : (z = false → fz = (0, 0)) ∧ ∀ j, j < vs.size → (decide (fz.1 ≤ j) && decide (j < fz.2)) = false) (hle : cs.length ≤ vs.size)
    (hr : ∀ j (h1 : j < cs.length) (h2 : j < vs.size), R g c.env cs[j] vs[j]) :
    RW { c with F := F' } (gSet g G 0 (w.heap.size, vs.size)) (h.set G (.cells elem z 1 [(0, cs)])) nx' w' := by
  have hext := gSet_ext (g := g) (e := 0) (x := (w.heap.size, vs.size)) (hG 0)
  refine hw.upd ⟨hst.1, hst.2.1, hst.2.2.1, by omega⟩ (fun q o hq => hold q ?_) (fun G' e' q n hne hl hq => hold q (hw.live_at hl hq).2) hext (fun G' e' hne => gSet_ne hne) hres hnx hGn ?_ ?_
  · exact (Array.getElem?_eq_some_iff.1 (hw.keep q o hq)).1
  · refine ⟨fun e he => by rw [gSet_ne' (by omega)]; exact hG e, fun e cs' hm => ?_⟩
    rw [List.mem_singleton] at hm
    cases hm
    refine ⟨w.heap.size, vs.size, gSet_self, ?_, vs, fz, hnew, hz, rfl, hle, fun j h1 h2 => (hr j h1 h2).mono hext⟩
    cases hk : c.K w.heap.size with
    | none => rfl
    | some o => exact absurd (Array.getElem?_eq_some_iff.1 (hw.keep _ o hk)).1 (by omega)
  · rintro e q n ⟨cs', hm⟩ hq G' e' n' hne hl hq'
    rw [List.mem_singleton] at hm
    cases hm
    rw [gSet_self] at hq
    cases hq
    have := (hw.live_at hl hq').2
    omega
/-- an operation yields a value -/
def DoesN (P : Program) (c c' : Cx) (g : Gm) (m : Sem Next) (w : World) (r : RV) (h' : Hp) (nx' : Nat) : Prop :=
  ∃ g' v w', m.run P w = .ok (.value v) w' ∧ R g' c.env r v ∧ Ext g g' ∧ RW c' g' h' nx' w'
theorem Does.next {c' : Cx} {m : Sem Value} {r : RV} {h' : Hp} (hd : Does P c c' g m w r h' nx') : DoesN P c c' g (do pure (Next.value (← m))) w r h' nx' := by
  obtain ⟨g', v, w', h1, h2⟩ := hd
  exact ⟨g', v, w', by rw [Sem.run_bind, h1]; rfl, h2⟩
theorem Vals.doesN {m : Sem Next} {r : RV} (h1 : Vals P g c.env m r) (hw : RW c g h nx w) : DoesN P c c g m w r h nx := by
  obtain ⟨v, h1, h2⟩ := h1
  exact ⟨g, v, w, h1 w, h2, Ext.refl g, hw⟩
theorem zeroCs_some {e : TypeId} {n : Nat} {cs : List RV} (hz : zeroCs P e n = some cs) : ∃ i z, P.info? e = some i ∧ i.zero = some z ∧ n * i.size ≤ 10000 ∧ cs = (rowZeros z.cells (n * i.size)).toList.map ofV := by
  unfold zeroCs at hz
  split at hz <;> try cases hz
  rename_i i hi
  split at hz <;> try cases hz
  rename_i z hzz
  cases hb : Nat.ble (n * i.size) 10000 with
  | false => rw [hb] at hz; cases hz
  | true =>
    rw [hb, cond_true] at hz
    cases hz
    exact ⟨i, z, hi, hzz, Nat.le_of_ble_eq_true hb, rfl⟩
theorem alloc_sound {o : Oper} {r : RV} {ob : OB} {G : Nat} {F' : Nat → Option (Nat → Option (Nat × Nat))} (ha : allocR P t G o = some (r, ob)) (hρ : ∀ x ∈ o.op.operands, R g c.env (evalR t x) (ρ x)) (hw : RW c g h nx w) (hG : ∀ e, g G e = none) (hres : ∀ x f, F' x = some f → c.F x = some f ∧ x ≠ G) (hnx : nx ≤ nx') (hGn : G < nx') :
    DoesN P c { c with F := F' } g (execOp ρ o) w r (h.set G ob) nx' := by
  obtain ⟨dst, op, type, pos, after, guard⟩ := o
  unfold allocR at ha
  simp only at ha hρ
  split at ha <;> try cases ha
  · split at ha <;> try cases ha
    rename_i l hl
    exact (does_alloc hl hw hG hres hnx hGn).next
  · split at ha <;> try cases ha
    rename_i l hl
    exact (does_box hl (hρ _ (by simp [Op.operands])) hw hG hres hnx hGn).next
  · rename_i ty len parts
    split at ha <;> try cases ha
    rename_i e ht
    split at ha <;> try cases ha
    rename_i i cs0 hi hz0
    obtain ⟨i', z, hi', hz, hmax, rfl⟩ := zeroCs_some hz0
    rw [hi] at hi'
    cases hi'
    obtain ⟨cs', arr', h1, e1, e2⟩ := fill_R (ρ := ρ) _ parts.toList _ (rowZeros z.cells (len * i.size)) _ _ (RL.lits _) (fun p hp => hρ p.2 (by simp only [Op.operands, List.mem_toArray, List.mem_map]; exact ⟨p, hp, rfl⟩)) ha
    have hlen : cs'.length = arr'.size := by have := e2.len; simpa using this
    have hrun : ((execOp ρ ⟨dst, .buildSlice ty len parts, type, pos, after, guard⟩).run P w) = .ok (.value (.slice (some ⟨w.heap.size, 0, none⟩) len len)) (w.alloc (.cells arr' e)) := by
      have hparts : (parts.map fun (i, x) => (i, ρ x)).toList = parts.toList.map fun p => (p.1, ρ p.2) := by simp
      unfold rowZeros at e1
      simp only [execOp, Instr.buildSlice, hparts]
      have hm' : ¬ (16777216 < len * i.size) := by omega
      by_cases h0 : len * i.size = 0
      · have e1' : Instr.fill (fun k => some (k * i.size, i.size)) #[] (parts.toList.map fun p => (p.1, ρ p.2)) = some arr' := by
          rw [h0, map_range0] at e1
          exact e1
        simp only [Nat.mul_eq_zero] at h0
        simp [run_underlying ht, sizeOf, typeInfo, hi, newRow]
        rcases h0 with h0 | h0
        · simp [h0, e1', map_range0]
        · simp only [h0, Nat.mul_zero] at e1' ⊢
          simp [e1', map_range0]
      · have h0' : ¬ (len = 0 ∨ i.size = 0) := fun hh => h0 (Nat.mul_eq_zero.2 hh)
        simp [run_underlying ht, zeroValue, sizeOf, typeInfo, hi, hz, hm', h0', e1, newRow]
        exact fun hh => absurd hh h0
    have hal := hw.alloc (elem := e) hG hres hnx hGn (Nat.le_of_eq hlen) fun j k1 k2 => by
      have := e2.at_ j k1 (by simpa using k2)
      rw [Array.getElem_toList] at this
      exact this
    cases hb : Nat.beq (len * i.size) 0 with
    | true =>
      rw [hb, cond_true] at h1
      cases hb2 : Nat.beq len 0 with
      | false => rw [hb2] at h1; cases h1
      | true =>
        rw [hb2, cond_true] at h1
        cases h1
        have := Nat.eq_of_beq_eq_true hb2
        subst this
        exact ⟨_, _, _, hrun, .s0 gSet_self, gSet_ext (hG 0), hal⟩
    | false =>
      rw [hb, cond_false] at h1
      cases h1
      have harr : arr'.size = len * i.size := by
        rw [fill_size _ _ _ _ e1]
        simp [rowZeros]
      refine ⟨_, _, _, hrun, .sl (n := arr'.size) gSet_self (Nat.le_refl _) (by omega), gSet_ext (hG 0), hal⟩
  · rename_i ty l cx
    split at ha <;> try cases ha
    rename_i e kl n kc m ht el ec
    split at ha <;> try cases ha
    rename_i i cs0 hi hz0
    obtain ⟨i', z, hi', hz, hmax, rfl⟩ := zeroCs_some hz0
    rw [hi] at hi'
    cases hi'
    have hl := hρ l (by simp [Op.operands])
    have hc := hρ cx (by simp [Op.operands])
    rw [el] at hl
    rw [ec] at hc
    cases hb : Nat.ble n m && Nat.ble 1 i.size && Nat.ble (m * i.bytes) 1000000 && Nat.ble m 1000000 with
    | false => rw [hb] at ha; cases ha
    | true =>
      rw [hb, cond_true] at ha
      rw [Bool.and_eq_true, Bool.and_eq_true, Bool.and_eq_true] at hb
      have b1 := Nat.le_of_ble_eq_true hb.1.1.1
      have b2 := Nat.le_of_ble_eq_true hb.1.1.2
      have b3 := Nat.le_of_ble_eq_true hb.1.2
      have b4 := Nat.le_of_ble_eq_true hb.2
      generalize hlv : ρ l = lv at hl
      generalize hcv : ρ cx = cv at hc
      cases hl
      cases hc
      have hrun : ((execOp ρ ⟨dst, .makeSlice ty l cx, type, pos, after, guard⟩).run P w) = .ok (.value (.slice (some ⟨w.heap.size, 0, none⟩) n m)) (w.alloc (.cells (rowZeros z.cells (m * i.size)) e)) := by
        have w1 : IntKind.i64.wrap (Int.ofNat n) = n := by rw [IntKind.wrap_i64]; simp; omega
        have w2 : IntKind.i64.wrap (Int.ofNat m) = m := by rw [IntKind.wrap_i64]; simp; omega
        have c1 : ¬ ((m : Int) < 0) := by omega
        have c2 : ¬ ((2 : Int) ^ 48 < (i.bytes : Int) * (m : Int)) := by
          have : (i.bytes : Int) * (m : Int) = ((m * i.bytes : Nat) : Int) := by rw [Nat.mul_comm]; simp
          rw [this]
          omega
        have c3 : ¬ ((n : Int) < 0) := by omega
        have c4 : ¬ ((m : Int) < (n : Int)) := by omega
        have c5 : ¬ (m * i.bytes > roomBytes) := by
          have : roomBytes = 140737488355328 := rfl
          omega
        simp only [execOp, Instr.makeSlice, hlv, hcv]
        by_cases h0 : m * i.size = 0
        · have hm0 : m = 0 := by
            rcases Nat.mul_eq_zero.1 h0 with h0 | h0
            · exact h0
            · omega
          subst hm0
          have hn0 : n = 0 := by omega
          subst hn0
          simp [run_underlying ht, typeInfo, sizeOf, hi, asInt, asIntOf, w1, w2, newRow, askRoom, rowZeros, IntKind.wrap_i64, map_range0]
        · have h0' : ¬ (m = 0 ∨ i.size = 0) := fun hh => h0 (Nat.mul_eq_zero.2 hh)
          simp only [Int.ofNat_eq_natCast] at w1 w2 ⊢
          have c2' : ¬ ((281474976710656 : Int) < (i.bytes : Int) * (m : Int)) := c2
          simp [run_underlying ht, typeInfo, sizeOf, hi, hz, zeroValue, asInt, asIntOf, w1, w2, c1, c2', c3, c4, h0', newRow, askRoom, c5, rowZeros]
          exact fun hh => absurd hh h0
      have hsz : (rowZeros z.cells (m * i.size)).size = m * i.size := by simp [rowZeros]
      have hal := hw.alloc (elem := e) (vs := rowZeros z.cells (m * i.size)) (cs := (rowZeros z.cells (m * i.size)).toList.map ofV) hG hres hnx hGn (by simp) fun j k1 k2 => by simpa using ofV_R g c.env _
      cases hb0 : Nat.beq m 0 with
      | true =>
        rw [hb0, cond_true] at ha
        cases ha
        have := Nat.eq_of_beq_eq_true hb0
        subst this
        have hn0 : n = 0 := by omega
        subst hn0
        exact ⟨_, _, _, hrun, .s0 gSet_self, gSet_ext (hG 0), hal⟩
      | false =>
        rw [hb0, cond_false] at ha
        cases ha
        exact ⟨_, _, _, hrun, .sl gSet_self b1 (by omega), gSet_ext (hG 0), hal⟩
  · rename_i src dst' x
    split at ha <;> try cases ha
    rename_i e l hs hd ex
    split at ha <;> try cases ha
    rename_i hu8
    rw [forceRs_eq _ _ (fun r hr s => by
      obtain ⟨n, _, rfl⟩ := List.mem_map.1 hr
      simp), forceN_eq] at ha
    cases ha
    have hx := hρ x (by simp [Op.operands])
    rw [ex] at hx
    generalize hxv : ρ x = xv at hx
    cases hx with
    | str hl =>
      let cap := grownCap w l.length 0 e
      have hcap : l.length ≤ cap := grownCap_ge w l.length 0 e
      let arr := (byteVals l).toArray ++ Array.replicate (cap - l.length) (Value.int .u8 0)
      have hasz : arr.size = cap := by
        simp [arr, byteVals]
        omega
      have hrun : ((execOp ρ ⟨dst, .convert src dst' x, type, pos, after, guard⟩).run P w) = .ok (.value (.slice (some ⟨w.heap.size, 0, none⟩) l.length cap)) ((w.drew.alloc (.cells arr e)).freeze ⟨w.heap.size, arr.size, none⟩ 1) := by
        have hc := ofCodes_cells hl
        simp only [execOp, hxv]
        simp [convert, run_underlying hs, run_underlying hd, run_underlying hu8, Conv.stringToBytes, Question.forced, newRow, markStringish, hc, size_ofCodes]
        have hsh : (w.drew.alloc (.cells arr e)).shape? w.heap.size = some (e, arr.size) := by
          have h1 : (w.drew.alloc (.cells arr e)).heap[w.heap.size]? = some (.cells arr e (0, 0)) := heap_alloc_new w.drew _
          unfold World.shape?
          rw [h1]
        change (((Sem.run P (match (w.drew.alloc (.cells arr e)).shape? w.heap.size with
          | some (fst, n) => freeze { block := w.heap.size, off := n } 1
          | x => pure ()) (w.drew.alloc (.cells arr e))).andThen _).andThen _) = _
        rw [hsh]
        rfl
      have hnewo : ((w.drew.alloc (.cells arr e)).freeze ⟨w.heap.size, arr.size, none⟩ 1).heap[w.heap.size]? = some (.cells arr e (arr.size, arr.size + 1)) := by
        have h1 : (w.drew.alloc (.cells arr e)).heap[w.heap.size]? = some (.cells arr e (0, 0)) := heap_alloc_new w.drew _
        unfold World.freeze
        rw [if_neg (by simp)]
        show ((w.drew.alloc (.cells arr e)).heap.modify w.heap.size _)[w.heap.size]? = _
        rw [Array.getElem?_modify, if_pos rfl, h1]
        rfl
      have hold : ∀ q, q < w.heap.size → ((w.drew.alloc (.cells arr e)).freeze ⟨w.heap.size, arr.size, none⟩ 1).heap[q]? = w.heap[q]? := fun q hq => by
        have h1 : (w.drew.alloc (.cells arr e)).heap[q]? = w.heap[q]? := Below.heap_alloc w.drew _ q hq
        have hne : ¬ (w.heap.size = q) := by omega
        simp [World.freeze, Array.getElem?_modify, hne, h1]
      have hal := hw.allocG (w' := (w.drew.alloc (.cells arr e)).freeze ⟨w.heap.size, arr.size, none⟩ 1) (z := true) (cs := l.map fun n => .lit (.int .u8 (.ofNat n))) hG hres hnx hGn ⟨rfl, rfl, rfl, by simp [World.freeze]⟩ hold hnewo ⟨fun hh => by (cases hh), fun j hj => by simp; omega⟩ (by simp; omega) fun j k1 k2 => by
        have hjl : j < l.length := by simpa using k1
        have e1 : arr[j] = (byteVals l)[j]'(by simpa [byteVals] using hjl) := by
          simp [arr, Array.getElem_append, byteVals, hjl]
        rw [e1]
        exact (byteVals_RL g c.env l).at_ j k1 _
      refine ⟨_, _, _, hrun, .sl (n := arr.size) gSet_self hcap (by omega), gSet_ext (hG 0), hal⟩
end
end Go.Proofs.YthkhdbfohaaojaaGreatDoor.Ax
