/-
  copy, clear, strings that share their bytes, iterators, new maps.
-/
import Derived.Test.YtnlimlboedohgaaGreatDoorAxEff2
namespace Go.Proofs.YtnlimlboedohgaaGreatDoor.Ax
open Go.RowKit
set_option linter.unusedVariables false
set_option linter.unusedSimpArgs false

section
variable {P : Program} {c : Cx} {g : Gm} {h : Hp} {nx nx' : Nat} {w w' : World} {t : Tr RV} {ρ : Operand -> Value}
/-- some cells of a block are written over -/
theorem RW.over (hw : RW c g h nx w) {G e q n nxe off : Nat} {elem : TypeId} {z : Bool} {cs l : List RV} {vs : List Value} (hc : cellsAt h G e = some (elem, z, nxe, cs)) (hq : g G e = some (q, n)) (hfit : off + l.length <= cs.length) (hl : RL g c.env l vs) :
  RW c g (h.set G (.cells elem z nxe [(e, cs.take off ++ l ++ cs.drop (off + l.length))])) nx (w.setCells q off vs) := by
 obtain ⟨hK, hlies, hlive, hnx, helt⟩ := hw.at_ hc hq
 obtain ⟨arr, fz, a1, af, a0, a2, a3⟩ := hlies
 have hlen : vs.length = l.length := hl.len.symm
 have hset := setCells_heap w q vs off arr elem fz a1 (by omega)
 refine hw.setRow hc hq a1 ⟨hset.2.2.1, hset.2.2.2.1, hset.2.2.2.2.1, hset.2.2.2.2.2⟩ hset.2.1 hset.1 (by simp; omega) (by simp; omega) ?_
 have hcs : RL g c.env cs (arr.toList.take cs.length) := ⟨by simp; omega, fun j k1 k2 => by
  rw [List.getElem_take]
  have hja : j < arr.size := by omega
  simpa using a3 j k1 hja⟩
 have hall := ((hcs.take off).append hl).append (hcs.drop (off + l.length))
 intro j k1 k2
 have hj2 : j < (List.take off (List.take cs.length arr.toList) ++ vs ++ List.drop (off + l.length) (List.take cs.length arr.toList)).length := by rw [<- hall.len]; exact k1
 have := hall.at_ j k1 hj2
 have e : (List.take off arr.toList ++ vs ++ List.drop (off + vs.length) arr.toList).toArray[j] = (List.take off (List.take cs.length arr.toList) ++ vs ++ List.drop (off + l.length) (List.take cs.length arr.toList))[j] := by
  have e1 : List.take off (List.take cs.length arr.toList) = List.take off arr.toList := by
   rw [List.take_take, Nat.min_eq_left (by omega)]
  have e2 : List.drop (off + l.length) (List.take cs.length arr.toList) = List.take (cs.length - (off + l.length)) (List.drop (off + l.length) arr.toList) := List.drop_take ..
  rw [List.getElem_toArray]
  apply Option.some.inj
  rw [<- List.getElem?_eq_getElem, <- List.getElem?_eq_getElem, e1, e2, hlen]
  rcases Nat.lt_or_ge j (List.take off arr.toList ++ vs).length with hlt | hge
  ·rw [List.getElem?_append_left hlt, List.getElem?_append_left hlt]
  ·rw [List.getElem?_append_right hge, List.getElem?_append_right hge, List.getElem?_take, if_pos]
   have e3 : (List.take off arr.toList ++ vs).length = off + l.length := by
    rw [List.length_append, List.length_take, Array.length_toList, hlen]; omega
   rw [e3] at hge |-
   have : j < cs.length := by
    have := k1
    simp only [List.length_append, List.length_take, List.length_drop] at this
    omega
   omega
 rw [e]
 exact this
theorem storeCells_run {G e q n nxe off : Nat} {elem : TypeId} {z : Bool} {cs l : List RV} {vs : List Value} (hw : RW c g h nx w) (hc : cellsAt h G e = some (elem, z, nxe, cs)) (hq : g G e = some (q, n)) (hfit : off + l.length <= cs.length) (hl : RL g c.env l vs) (h1 : ∀ y ∈ vs, y.oneCell' = true) :
  (storeCells ⟨q, off, none⟩ vs).run P w = .ok () (w.setCells q off vs) := by
 obtain ⟨hK, hlies, _⟩ := hw.at_ hc hq
 have hlen : vs.length = l.length := hl.len.symm
 have hst := run_storeCells_cells (P := P) q off vs 0 w (fun j hj => by
   obtain ⟨y, hy, _, _⟩ := hlies.cell (j := off + j) (by omega)
   rw [Nat.add_zero, hy]; rfl) (fun j hj => by
   obtain ⟨y, _, _, hy⟩ := hlies.cell (j := off + j) (by omega)
   rw [Nat.add_zero]; exact hy) h1
 rw [Nat.add_zero] at hst
 exact hst
theorem copy_does {ty tt : TypeId} {ats : Array TypeId} {r x r' : RV} {h' : Hp} {v u : Value} (hat : ats[0]? = some ty) (hf : copyR P h ty r x = some (r', h')) (hr : R g c.env r v) (hx : R g c.env x u) (hw : RW c g h nx w) : Does P c c g (Builtin.copy_ ats tt #[v, u]) w r' h' nx := by
 unfold copyR at hf
 split at hf <;> try cases hf
 rename_i e ht
 split at hf <;> try cases hf
 rename_i i hi
 have hkind : srcKind P ty = true := by simp [srcKind, ht]
 split at hf
 ·rename_i G mb off n s
  cases hb : Nat.beq s i.size && Nat.ble 1 s with
  | false => rw [hb] at hf; cases hf
  | true =>
  rw [hb, cond_true] at hf
  rw [Bool.and_eq_true] at hb
  have hs := Nat.eq_of_beq_eq_true hb.1
  subst hs
  obtain ⟨m, cells, hf2, news, hrl, hsrc, hpre⟩ := src_some hf hx hw hkind
  replace hf := hf2
  clear hf2
  rw [forceN_eq] at hf
  cases hr with
  | sl hq hcap hn =>
  rename_i q nq cap
  have hnl : news.length = m * i.size := hsrc.newsLen
  have hrun : ∀ {w1 : World}, (storeCells ⟨q, off, none⟩ (news.take (min m n * i.size))).run P w = .ok () w1 -> (Builtin.copy_ ats tt #[.slice (some ⟨q, off, none⟩) n cap, u]).run P w = .ok (goInt ((min m n : Nat) : Int)) w1 := fun hst => by
   have hp := hpre (min m n) (Nat.min_le_left _ _)
   have hmin : Nat.min m n = min m n := rfl
   simp [Builtin.copy_, hat, run_underlying ht, hsrc.len, sizeOf, typeInfo, hi, hmin, hp, hst]
  cases hk : Nat.beq (min m n) 0 with
  | true =>
   rw [hk, cond_true] at hf
   cases hf
   have hk0 := Nat.eq_of_beq_eq_true hk
   refine ⟨g, _, w, hrun (w1 := w) ?_, ?_, Ext.refl g, hw⟩
   ·rw [hk0, Nat.zero_mul]
    rfl
   ·rw [hk0]
    exact .lit _
  | false =>
   rw [hk, cond_false] at hf
   obtain ⟨h1, hf2⟩ := takeO_some hf
   replace hf := hf2
   clear hf2
   split at hf <;> try cases hf
   rename_i el z nxe cs hc
   obtain ⟨h2, h3⟩ := overO_some hf
   rw [putT_eq] at h3
   cases h3
   have hrl2 := hrl.take (min m n * i.size)
   refine ⟨g, _, _, hrun (storeCells_run hw hc hq h2 hrl2 fun y hy => hsrc.one y (List.mem_of_mem_take hy)), .lit _, Ext.refl g, hw.over hc hq h2 hrl2⟩
 ·rename_i hne
  cases hb : isEmptyS r && (isSlice x || isStr x) with
  | false => rw [hb] at hf; cases hf
  | true =>
  rw [hb, cond_true] at hf
  cases hf
  rw [Bool.and_eq_true] at hb
  have hlen : ∃ m, (Builtin.lenOf u).run P w = .ok m w := by
   have hs := hb.2
   rw [Bool.or_eq_true] at hs
   rcases hs with hs | hs
   ·unfold isSlice at hs
    split at hs <;> try cases hs
    all_goals (cases hx; exact ⟨_, rfl⟩)
   ·unfold isStr at hs
    split at hs <;> try cases hs
    cases hx
    exact ⟨_, rfl⟩
  obtain ⟨m, hm⟩ := hlen
  have hmin : Nat.min m 0 = 0 := Nat.min_zero _
  have hfc : (Builtin.firstCells i.size 0 u).run P w = .ok #[] w := by
   have hs := hb.2
   rw [Bool.or_eq_true] at hs
   rcases hs with hs | hs
   ·unfold isSlice at hs
    split at hs <;> try cases hs
    all_goals (cases hx; simp [Builtin.firstCells, loadCells, loadCellsFrom])
   ·obtain ⟨l0, rfl⟩ : ∃ l0, x = .str l0 := by cases x <;> first | exact ⟨_, rfl⟩ | cases hs
    cases hx with
    | str hl =>
     have e1 : (ofCodes l0).extract 0 0 = ofCodes ([] : List Nat) := by
      unfold ofCodes
      rw [ByteArray.extract_mk]
      rfl
     simp [Builtin.firstCells, e1, ofCodes]
  have hb1 := hb.1
  unfold isEmptyS at hb1
  split at hb1 <;> try cases hb1
  ·cases hr with
   | s0 hq =>
    refine ⟨g, goInt 0, w, ?_, .lit _, Ext.refl g, hw⟩
    simp [Builtin.copy_, hat, run_underlying ht, hm, sizeOf, typeInfo, hi, hmin, hfc, storeCells]
  ·cases hr with
   | se a cap =>
    refine ⟨g, goInt 0, w, ?_, .lit _, Ext.refl g, hw⟩
    simp [Builtin.copy_, hat, run_underlying ht, hm, sizeOf, typeInfo, hi, hmin, hfc, storeCells]
  ·cases hr
   refine ⟨g, goInt 0, w, ?_, .lit _, Ext.refl g, hw⟩
   simp [Builtin.copy_, hat, run_underlying ht, hm, sizeOf, typeInfo, hi, hmin, hfc, storeCells]
theorem clear_does {ty tt : TypeId} {ats : Array TypeId} {r : RV} {h' : Hp} {v : Value} (hat : ats[0]? = some ty) (hf : clearR P h ty r = some h') (hr : R g c.env r v) (hw : RW c g h nx w) : Does P c c g (Builtin.clear_ ats tt #[v]) w (.lit (.tuple #[])) h' nx := by
 unfold clearR at hf
 split at hf <;> try cases hf
 ·rename_i e G mb off n s ht
  split at hf <;> try cases hf
  rename_i i z0 el fz nxe cs hi hz0 hc
  obtain ⟨i', z, hi', hz, hmax, rfl⟩ := zeroCs_some hz0
  rw [hi] at hi'
  cases hi'
  cases hb : Nat.beq s i.size && Nat.ble 1 n && zeroOk i && ((rowZeros z.cells (n * i.size)).toList.map ofV).all oneR with
  | false => rw [hb] at hf; cases hf
  | true =>
  rw [hb, cond_true] at hf
  rw [Bool.and_eq_true, Bool.and_eq_true, Bool.and_eq_true] at hb
  have hn1 := Nat.le_of_ble_eq_true hb.1.1.2
  have hzs : z.cells.size = i.size := by
   have := hb.1.2
   simp only [zeroOk, hz] at this
   exact Nat.eq_of_beq_eq_true this
  obtain ⟨h2, h3⟩ := overO_some hf
  rw [putT_eq] at h3
  cases h3
  have hrl : RL g c.env ((rowZeros z.cells (n * i.size)).toList.map ofV) (rowZeros z.cells (n * i.size)).toList := .lits _
  cases hr with
  | sl hq hcap hn =>
  rename_i q nq cap
  have hone : ∀ y ∈ (rowZeros z.cells (n * i.size)).toList, y.oneCell' = true := fun y hy => by
   obtain ⟨k', hk', rfl⟩ := List.getElem_of_mem hy
   exact oneR_R (List.all_eq_true.1 hb.2 _ (List.getElem_mem (by rw [hrl.len]; exact hk'))) (hrl.at_ k' (by rw [hrl.len]; exact hk') hk')
  refine ⟨g, .tuple #[], _, ?_, .lit _, Ext.refl g, hw.over hc hq h2 hrl⟩
  have hst := storeCells_run (P := P) hw hc hq h2 hrl hone
  have hzc : Builtin.zeroCells z.cells n = rowZeros z.cells (n * i.size) := by
   unfold Builtin.zeroCells rowZeros
   rw [hzs]
  obtain ⟨n', rfl⟩ : ∃ n', n = n' + 1 := ⟨n - 1, by omega⟩
  simp [Builtin.clear_, hat, run_underlying ht, zeroValue, typeInfo, hi, hz, hzc, hst]
 ·rename_i ht
  cases hr with
  | s0 hq =>
   refine ⟨g, .tuple #[], w, ?_, .lit _, Ext.refl g, hw⟩
   simp [Builtin.clear_, hat, run_underlying ht]
 ·rename_i ht
  cases hr with
  | se a cap =>
   refine ⟨g, .tuple #[], w, ?_, .lit _, Ext.refl g, hw⟩
   simp [Builtin.clear_, hat, run_underlying ht]
 ·rename_i ht
  cases hr
  refine ⟨g, .tuple #[], w, ?_, .lit _, Ext.refl g, hw⟩
  simp [Builtin.clear_, hat, run_underlying ht]
/-- a new object that is no row of cells -/
theorem RW.newObj (hw : RW c g h nx w) {ob : OB} {o : Obj} (hl' : ∀ e, LiveOb ob e -> e = 0) (hok : ∀ (w' : World) (g' : Gm), w'.heap[w.heap.size]? = some o -> g' nx 0 = some (w.heap.size, 0) -> (∀ e, 1 <= e -> g' nx e = none) -> c.K w.heap.size = none -> Ext g g' -> OK c g' w' nx ob) :
  RW c (gSet g nx 0 (w.heap.size, 0)) (h.set nx ob) (nx + 1) (w.alloc o) := by
 have hG : ∀ e, g nx e = none := fun e => hw.free nx e (Nat.le_refl _)
 have hold : ∀ q, q < w.heap.size -> (w.alloc o).heap[q]? = w.heap[q]? := fun q hq => Below.heap_alloc w _ q hq
 have hext := gSet_ext (g := g) (e := 0) (x := (w.heap.size, 0)) (hG 0)
 refine hw.upd (F' := c.F) (G := nx) ⟨rfl, rfl, rfl, by simp⟩ (fun q o hq => hold q ?_) (fun G' e' q n hne hl hq => hold q (hw.live_at hl hq).2) hext (fun G' e' hne => gSet_ne hne) (fun x f hx => ⟨hx, ?_⟩) (Nat.le_succ _) (Nat.lt_succ_self _) ?_ ?_
 ·exact (Array.getElem?_eq_some_iff.1 (hw.keep q o hq)).1
 ·have := (hw.res x f hx).1
  omega
 ·refine hok _ _ (heap_alloc_new w _) gSet_self (fun e he => by rw [gSet_ne' (by omega)]; exact hG e) ?_ hext
  cases hk : c.K w.heap.size with
  | none => rfl
  | some o => exact absurd (Array.getElem?_eq_some_iff.1 (hw.keep _ o hk)).1 (by omega)
 ·intro e q n he hq G' e' n' hne hl hq'
  have := hl' e he
  subst this
  rw [gSet_self] at hq
  cases hq
  have := (hw.live_at hl hq').2
  omega
theorem range_does {ty : TypeId} {l : List Nat} {u : Value} (hu : P.underlying ty = some .string) (hx : R g c.env (.str l) u) (hw : RW c g h nx w) : Does P c c g (Instr.range ty u) w (.ptr nx 0 0) (h.set nx (.si l l 0)) (nx + 1) := by
 cases hx with
 | str hl =>
  refine ⟨_, .pointer (some ⟨w.heap.size, 0, none⟩), _, ?_, .ptr gSet_self, gSet_ext (hw.free nx 0 (Nat.le_refl _)), hw.newObj (o := .stringIter (ofCodes l) 0) (fun e he => he) fun w' g' h1 h2 h3 h4 h5 => ⟨h3, hl, rfl, w.heap.size, h2, h4, h1⟩⟩
  simp [Instr.range, run_underlying hu, Go.newObj, Sem.run]
theorem makeMap_does {ty : TypeId} (hw : RW c g h nx w) : Does P c c g (Instr.makeMap ty none) w (.mp nx) (h.set nx (.mp [] 0)) (nx + 1) := by
 refine ⟨_, .map (some w.heap.size), _, ?_, .mp gSet_self, gSet_ext (hw.free nx 0 (Nat.le_refl _)), hw.newObj (o := .map #[] 0) (fun e he => he) fun w' g' h1 h2 h3 h4 h5 => ⟨h3, w.heap.size, #[], h2, h4, h1, rfl, fun j a => absurd a (by simp)⟩⟩
 simp [Instr.makeMap, Go.newObj, Sem.run]
theorem next_does {G : Nat} {s rest : List Nat} {pos : Nat} {u : Value} {tt : TypeId} (hg : h.get G = some (.si s rest pos)) (hx : R g c.env (.ptr G 0 0) u) (hw : RW c g h nx w) :
  (rest = [] -> Does P c c g (Instr.next u true tt) w (.tup [.lit (.bool false)]) h nx) /\ (∀ b r', rest = b :: r' -> b < 128 -> Does P c c g (Instr.next u true tt) w (.tup [.lit (.bool true), .lit (.int .i64 (.ofNat pos)), .lit (.int .i32 (.ofNat b))]) (h.set G (.si s r' (pos + 1))) nx) := by
 obtain ⟨h0, hs, hr, q, h1, h2, h3⟩ := hw.ok G _ hg
 cases hx with
 | ptr hq =>
 rename_i q' n'
 rw [h1] at hq
 cases hq
 constructor
 ·rintro rfl
  have hge : ¬ (pos < (ofCodes s).size) := by
   rw [size_ofCodes]
   have := congrArg List.length hr
   simp at this
   omega
  refine ⟨g, .tuple #[.bool false], w, ?_, .tup rfl fun i k1 k2 => ?_, Ext.refl g, hw⟩
  ·simp [Instr.next, getObj, Sem.run, h3, hge]
  ·rcases i with _ | i
   ·exact .lit _
   ·simp at k1
 ·rintro b r' rfl hb
  have hlt : pos < s.length := by
   have := congrArg List.length hr
   simp at this
   omega
  have hget : s[pos]? = some b := by
   have := congrArg (fun l => l[0]?) hr
   simp only [List.getElem?_cons_zero, List.getElem?_drop, Nat.add_zero] at this
   exact this.symm
  have hlt' : pos < (ofCodes s).size := by rw [size_ofCodes]; exact hlt
  have hbyte : ((ofCodes s)[pos]'hlt').toNat = b := by
   have e : (ofCodes s)[pos]'hlt' = UInt8.ofNat b := by
    show (ofCodes s).data[pos] = _
    have := (List.getElem?_eq_some_iff.1 hget).2
    simp [ofCodes, this]
   rw [e]
   simp only [UInt8.toNat_ofNat']
   omega
  have hdec := decode_ascii (ofCodes s) pos hlt' (by rw [hbyte]; exact hb)
  rw [hbyte] at hdec
  refine ⟨g, .tuple #[.bool true, goInt pos, .int .i32 b], _, ?_, .tup rfl fun i k1 k2 => ?_, Ext.refl g, hw.setObj hg rfl h1 (fun e he => he) (o := .stringIter (ofCodes s) (pos + 1)) fun w' hq' => ⟨h0, hs, ?_, q, h1, h2, hq'⟩⟩
  ·simp [Instr.next, getObj, setObj, Sem.run, h3, hlt', hdec]
  ·rcases i with _ | _ | _ | i
   ·exact .lit _
   ·exact .lit _
   ·exact .lit _
   ·simp at k1
    omega
  ·have := congrArg List.tail hr
   simpa using this
end
end Go.Proofs.YtnlimlboedohgaaGreatDoor.Ax
