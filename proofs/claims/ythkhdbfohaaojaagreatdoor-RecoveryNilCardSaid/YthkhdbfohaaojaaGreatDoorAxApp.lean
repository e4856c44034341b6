/-
  append, in relative terms.
-/
import Derived.Test.YthkhdbfohaaojaaGreatDoorAxOps
namespace Go.Proofs.YthkhdbfohaaojaaGreatDoor.Ax
open Go.RowKit
set_option linter.unusedVariables false
set_option linter.unusedSimpArgs false

def lenLe : List RV → Nat → Bool
  | [], _ => true
  | _ :: _, 0 => false
  | _ :: l, n + 1 => lenLe l n
theorem lenLe_le : ∀ {l : List RV} {n : Nat}, lenLe l n = true → l.length ≤ n
  | [], n, _ => Nat.zero_le _
  | x :: l, 0, h => by cases h
  | x :: l, n + 1, h => Nat.succ_le_succ (lenLe_le (l := l) h)
/-- the elder members that are short enough, a few of them -/
def keepM {β : Type} (k : Nat) : List (Nat × List RV) → Nat → (List (Nat × List RV) → β) → β
  | [], _, f => f []
  | _, 0, f => f []
  | (e, cs) :: r, lim + 1, f => bif lenLe cs k then keepM k r lim fun r' => f ((e, cs) :: r') else keepM k r (lim + 1) f
theorem keepM_some {β : Type} (k : Nat) : ∀ (mem : List (Nat × List RV)) (lim : Nat) (f : List (Nat × List RV) → β), ∃ r', keepM k mem lim f = f r' ∧ ∀ p ∈ r', p ∈ mem ∧ p.2.length ≤ k
  | [], lim, f => ⟨[], by cases lim <;> rfl, fun p hp => by cases hp⟩
  | p :: r, 0, f => ⟨[], rfl, fun p hp => by cases hp⟩
  | (e, cs) :: r, lim + 1, f => by
    unfold keepM
    cases hb : lenLe cs k with
    | true =>
      obtain ⟨r', h1, h2⟩ := keepM_some k r lim fun r' => f ((e, cs) :: r')
      refine ⟨(e, cs) :: r', h1, fun p hp => ?_⟩
      rcases List.mem_cons.1 hp with rfl | hp
      · exact ⟨List.mem_cons_self, lenLe_le hb⟩
      · exact ⟨List.mem_cons_of_mem _ (h2 p hp).1, (h2 p hp).2⟩
    | false =>
      obtain ⟨r', h1, h2⟩ := keepM_some k r (lim + 1) f
      exact ⟨r', h1, fun p hp => ⟨List.mem_cons_of_mem _ (h2 p hp).1, (h2 p hp).2⟩⟩
section
variable {P : Program} {c : Cx} {g : Gm} {h : Hp} {nx : Nat} {w : World}
theorem RW.lt_nx (hw : RW c g h nx w) {G e : Nat} {x : Nat × Nat} (hq : g G e = some x) : G < nx := by
  rcases Nat.lt_or_ge G nx with hlt | hge
  · exact hlt
  · rw [hw.free G e hge] at hq
    cases hq
/-- in place: the new member is the same real block -/
theorem RW.room (hw : RW c g h nx w) {G e q n nxe k : Nat} {elem : TypeId} {mem r' : List (Nat × List RV)} {cs news : List RV} {vs : List Value} {arr : Array Value} (hget : h.get G = some (.cells elem false nxe mem)) (hm : (e, cs) ∈ mem) (hq : g G e = some (q, n))
    (ha : w.heap[q]? = some (.cells arr elem (0, 0))) (hk : k ≤ cs.length) (hr : RL g c.env news vs) (hfit : k + vs.length ≤ arr.size) (hkeep : ∀ p ∈ r', p ∈ mem ∧ p.2.length ≤ k)
    {w' : World} (hst : w'.os = w.os ∧ w'.tape = w.tape ∧ w'.output = w.output ∧ w'.heap.size = w.heap.size) (hoth : ∀ k', k' ≠ q → w'.heap[k']? = w.heap[k']?) (hrow : w'.heap[q]? = some (.cells (arr.toList.take k ++ vs ++ arr.toList.drop (k + vs.length)).toArray elem (0, 0))) :
    RW c (gSet g G nxe (q, n)) (h.set G (.cells elem false (nxe + 1) ((nxe, cs.take k ++ news) :: r'))) nx w' := by
  have hok := hw.ok G _ hget
  have hlive : Live h G e := ⟨_, hget, cs, hm⟩
  obtain ⟨hK, hqlt⟩ := hw.live_at hlive hq
  obtain ⟨q', n', h1, h2, arr', fz', a1, af, a0, a2, a3⟩ := hok.2 e cs hm
  rw [hq] at h1
  cases h1
  rw [ha] at a1
  cases a1
  have hnone : g G nxe = none := hok.1 nxe (Nat.le_refl _)
  have hext := gSet_ext (x := (q, n)) hnone
  have hsize : (arr.toList.take k ++ vs ++ arr.toList.drop (k + vs.length)).toArray.size = n := by
    simp only [List.size_toArray, List.length_append, List.length_take, List.length_drop, Array.length_toList]
    omega
  have hcell : ∀ j (h1 : j < k) (h2 : j < (arr.toList.take k ++ vs ++ arr.toList.drop (k + vs.length)).toArray.size) (h3 : j < arr.size), (arr.toList.take k ++ vs ++ arr.toList.drop (k + vs.length)).toArray[j] = arr[j] := by
    intro j h1 h2 h3
    simp only [List.getElem_toArray]
    rw [List.getElem_append_left (by simp; omega), List.getElem_append_left (by simp; omega), List.getElem_take]
    rfl
  refine hw.upd (F' := c.F) ⟨hst.1, hst.2.1, hst.2.2.1, Nat.le_of_eq hst.2.2.2.symm⟩ (fun k' o hk' => hoth k' fun ee => by rw [ee, hK] at hk'; cases hk') (fun G' e' k' m hne hl' hk' => hoth k' fun ee => ?_) hext (fun G' e' hne => gSet_ne hne) (hw.not_fix hlive) (Nat.le_refl _) (hw.lt_nx hq) ?_ ?_
  · subst ee
    exact hne (hw.sep _ _ _ _ _ _ _ hl' hlive hk' hq)
  · refine ⟨fun e' he' => by rw [gSet_ne' (by omega)]; exact hok.1 e' (by omega), fun e' cs' hm' => ?_⟩
    rcases List.mem_cons.1 hm' with hm' | hm'
    · cases hm'
      refine ⟨q, n, gSet_self, hK, _, _, hrow, af, hsize, ?_, fun j k1 k2 => ?_⟩
      · simp only [List.length_append, List.length_take]
        have := hr.len
        omega
      · by_cases hj : j < k
        · rw [hcell j hj k2 (by omega)]
          simp only [List.getElem_append_left (show j < (cs.take k).length by simp; omega), List.getElem_take]
          exact (a3 j (by omega) (by omega)).mono hext
        · have hl1 : (cs.take k).length = k := by simp; omega
          have hl2 : (arr.toList.take k).length = k := by simp; omega
          have hjn : j - k < news.length := by
            simp only [List.length_append, hl1] at k1
            omega
          have hjv : j - k < vs.length := by rw [← hr.len]; exact hjn
          have e2 : (arr.toList.take k ++ vs ++ arr.toList.drop (k + vs.length)).toArray[j] = vs[j - k] := by
            simp only [List.getElem_toArray]
            rw [List.getElem_append_left (by simp only [List.length_append, hl2]; omega), List.getElem_append_right (by rw [hl2]; omega)]
            simp only [hl2]
          have e3 : (cs.take k ++ news)[j] = news[j - k] := by
            rw [List.getElem_append_right (by rw [hl1]; omega)]
            simp only [hl1]
          rw [e2, e3]
          exact (hr.at_ (j - k) hjn hjv).mono hext
    · obtain ⟨hmm, hlen⟩ := hkeep _ hm'
      obtain ⟨q1, n1, b1, b2, b3⟩ := hok.2 e' cs' hmm
      refine ⟨q1, n1, hext _ _ _ b1, b2, ?_⟩
      by_cases e : q1 = q
      · subst e
        obtain ⟨arr1, fz1, d1, df, d0, d2, d3⟩ := b3
        rw [ha] at d1
        cases d1
        refine ⟨_, _, hrow, df, by omega, d2, fun j k1 k2 => ?_⟩
        have hlen' : cs'.length ≤ k := hlen
        rw [hcell j (by omega) k2 (by omega)]
        exact (d3 j k1 (by omega)).mono hext
      · exact b3.mono hext (hoth q1 e)
  · rintro e' q1 n1 ⟨cs', hm'⟩ hq1 G' e'' n'' hne hl' hq''
    rcases List.mem_cons.1 hm' with hm' | hm'
    · cases hm'
      rw [gSet_self] at hq1
      cases hq1
      exact hne (hw.sep _ _ _ _ _ _ _ hl' hlive hq'' hq)
    · have hmm := (hkeep _ hm').1
      obtain ⟨q2, n2, b1, b2, b3⟩ := hok.2 e' cs' hmm
      have b1' := hext _ _ _ b1
      rw [hq1] at b1'
      cases b1'
      exact hne (hw.sep _ _ _ _ _ _ _ hl' ⟨_, hget, cs', hmm⟩ hq'' b1)
/-- moved: a new real block holds what the elder one held, the new cells, and zeros -/
theorem RW.moved (hw : RW c g h nx w) {G e q n nxe k : Nat} {elem : TypeId} {mem r' : List (Nat × List RV)} {cells : List RV} {vs : List Value} (hget : h.get G = some (.cells elem false nxe mem)) (hq : g G e = some (q, n))
    (hr : RL g c.env cells vs) (zs : Array Value) {full : Array Value} (hf : full.toList = vs ++ zs.toList) (hlive : Live h G e) (hkeep : ∀ p ∈ r', p ∈ mem ∧ p.2.length ≤ k) :
    RW c (gSet g G nxe (w.heap.size, full.size)) (h.set G (.cells elem false (nxe + 1) ((nxe, cells) :: r'))) nx (w.drew.alloc (.cells full elem)) := by
  have hok := hw.ok G _ hget
  have hnone : g G nxe = none := hok.1 nxe (Nat.le_refl _)
  have hext := gSet_ext (x := (w.heap.size, full.size)) hnone
  have hold : ∀ q, q < w.heap.size → (w.drew.alloc (.cells full elem)).heap[q]? = w.heap[q]? := fun q hq => Below.heap_alloc w.drew _ q hq
  have hnew : (w.drew.alloc (.cells full elem)).heap[w.heap.size]? = some (.cells full elem) := heap_alloc_new w.drew _
  have hfs : full.size = vs.length + zs.size := by rw [← Array.length_toList, hf]; simp
  have hKn : c.K w.heap.size = none := by
    cases hk : c.K w.heap.size with
    | none => rfl
    | some o => exact absurd (Array.getElem?_eq_some_iff.1 (hw.keep _ o hk)).1 (by omega)
  refine hw.upd (F' := c.F) ⟨rfl, rfl, rfl, by simp⟩ (fun k' o hk' => hold k' (Array.getElem?_eq_some_iff.1 (hw.keep k' o hk')).1) (fun G' e' k' m hne hl' hk' => hold k' (hw.live_at hl' hk').2) hext (fun G' e' hne => gSet_ne hne) (hw.not_fix hlive) (Nat.le_refl _) (hw.lt_nx hq) ?_ ?_
  · refine ⟨fun e' he' => by rw [gSet_ne' (by omega)]; exact hok.1 e' (by omega), fun e' cs' hm' => ?_⟩
    rcases List.mem_cons.1 hm' with hm' | hm'
    · cases hm'
      refine ⟨w.heap.size, full.size, gSet_self, hKn, full, (0, 0), hnew, ⟨fun _ => rfl, fun j _ => by simp⟩, rfl, by have := hr.len; omega, fun j h1 h2 => ?_⟩
      have hjv : j < vs.length := by rw [← hr.len]; exact h1
      have e1 : full[j] = vs[j] := by
        have h3 : full.toList[j]? = vs[j]? := by rw [hf, List.getElem?_append_left hjv]
        rw [Array.getElem?_toList, Array.getElem?_eq_getElem h2, List.getElem?_eq_getElem hjv] at h3
        exact Option.some.inj h3
      rw [e1]
      exact (hr.at_ j h1 hjv).mono hext
    · obtain ⟨hmm, hlen⟩ := hkeep _ hm'
      obtain ⟨q1, n1, b1, b2, b3⟩ := hok.2 e' cs' hmm
      exact ⟨q1, n1, hext _ _ _ b1, b2, b3.mono hext (hold q1 (hw.live_at ⟨_, hget, cs', hmm⟩ b1).2)⟩
  · rintro e' q1 n1 ⟨cs', hm'⟩ hq1 G' e'' n'' hne hl' hq''
    rcases List.mem_cons.1 hm' with hm' | hm'
    · cases hm'
      rw [gSet_self] at hq1
      cases hq1
      have := (hw.live_at hl' hq'').2
      omega
    · have hmm := (hkeep _ hm').1
      obtain ⟨q2, n2, b1, b2, b3⟩ := hok.2 e' cs' hmm
      have b1' := hext _ _ _ b1
      rw [hq1] at b1'
      cases b1'
      exact hne (hw.sep _ _ _ _ _ _ _ hl' ⟨_, hget, cs', hmm⟩ hq'' b1)
/-- a new block of its own, drawn -/
theorem RW.made (hw : RW c g h nx w) {elem : TypeId} {cells : List RV} {vs : List Value} (hr : RL g c.env cells vs) (zs : Array Value) {full : Array Value} (hf : full.toList = vs ++ zs.toList) :
    RW c (gSet g nx 0 (w.heap.size, full.size)) (h.set nx (.cells elem false 1 [(0, cells)])) (nx + 1) (w.drew.alloc (.cells full elem)) := by
  have hfs : full.size = vs.length + zs.size := by rw [← Array.length_toList, hf]; simp
  refine hw.drew.alloc (F' := c.F) (fun e => hw.free nx e (Nat.le_refl _)) (fun x f hx => ⟨hx, by have := (hw.res x f hx).1; omega⟩) (Nat.le_succ _) (Nat.lt_succ_self _) (by have := hr.len; omega) fun j h1 h2 => ?_
  have hjv : j < vs.length := by rw [← hr.len]; exact h1
  have e1 : full[j] = vs[j] := by
    have h3 : full.toList[j]? = vs[j]? := by rw [hf, List.getElem?_append_left hjv]
    rw [Array.getElem?_toList, Array.getElem?_eq_getElem h2, List.getElem?_eq_getElem hjv] at h3
    exact Option.some.inj h3
  rw [e1]
  exact hr.at_ j h1 hjv
end
end Go.Proofs.YthkhdbfohaaojaaGreatDoor.Ax
