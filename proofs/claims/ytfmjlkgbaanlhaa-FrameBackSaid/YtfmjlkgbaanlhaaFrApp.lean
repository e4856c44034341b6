/-
  append onto a row of the call's own, from any bytes, nil among them.
-/
import Derived.Test.YtfmjlkgbaanlhaaFrNext
import Derived.Maps.AppendAt
import Derived.Deep.AppendLies
import Derived.RegionTactic
import Derived.OwnWalk
namespace Go.Proofs.Ytfmjlkgbaanlhaa
open Go.RowKit
set_option linter.unusedVariables false
set_option linter.unusedSimpArgs false

/-- v is a slice of n bytes of the call's own (in a block from base on, or nil) that holds bs -/
def Own (w : World) (base : Nat) (v : Value) (n : Nat) (bs : List UInt8) : Prop := w.ownsRow base 5 1 v n (bv bs)
theorem Own.len {w : World} {base : Nat} {v : Value} {n : Nat} {bs : List UInt8} (h : Own w base v n bs) : bs.length = n := by
  have := h.1
  rw [bv_length] at this
  omega
theorem Own.form {w : World} {base : Nat} {v : Value} {n : Nat} {bs : List UInt8} (h : Own w base v n bs) : ∃ A c, v = .slice A n c ∧ n ≤ c ∧ c ≤ maxLen ∧ Bytes w w.heap.size A n bs := by
  have hl := h.len
  rcases h.2 with ⟨rfl, rfl⟩ | ⟨g, cap, cur, rfl, hb, hh, hnc, hcm, hcs, ht⟩
  · obtain rfl : bs = [] := List.eq_nil_of_length_eq_zero hl
    exact ⟨none, 0, rfl, Nat.le_refl _, by decide, Bytes.nil _ _ _⟩
  · refine ⟨_, cap, rfl, hnc, hcm, hl, fun hp => ⟨g, 0, rfl, ?_, fun j hj => ?_⟩⟩
    · rcases Nat.lt_or_ge g w.heap.size with h | h
      · exact h
      · rw [Array.getElem?_eq_none h] at hh; cases hh
    · rw [Nat.zero_add, cell_of_row w g j _ _ (0, 0) hh]
      have h1 : (cur.toList.take (n * 1))[j]? = some (.int .u8 (bs[j].toNat : Int)) := by rw [ht]; exact bv_at bs j hj
      rw [List.getElem?_take, if_pos (by omega)] at h1
      simpa using h1
theorem Own.of_BB {w : World} {base g n : Nat} {bs : List UInt8} (h : BB w g bs) (hb : base ≤ g) (hn : bs.length = n) (hm : n ≤ maxLen) : Own w base (.slice (some ⟨g, 0, none⟩) n n) n bs :=
  ⟨by rw [bv_length]; omega, .inr ⟨g, n, _, rfl, hb, h, Nat.le_refl _, hm, by simp [bv_length]; omega, by
    rw [show (bv bs).toArray.toList = bv bs from rfl, List.take_of_length_le (by rw [bv_length]; omega)]⟩⟩
theorem Own.nil (w : World) (base : Nat) : Own w base (.slice none 0 0) 0 [] := ⟨rfl, .inl ⟨rfl, rfl⟩⟩
theorem Own.drewN {w : World} {base : Nat} {v : Value} {n : Nat} {bs : List UInt8} (h : Own w base v n bs) (k : Nat) : Own (w.drewN k) base v n bs := h
theorem Own.drew {w : World} {base : Nat} {v : Value} {n : Nat} {bs : List UInt8} (h : Own w base v n bs) : Own w.drew base v n bs := h
theorem Own.alloc {w : World} {base : Nat} {v : Value} {n : Nat} {bs : List UInt8} (h : Own w base v n bs) (o : Obj) : Own (w.alloc o) base v n bs := World.ownsRow.alloc h o

section
variable {P : Program} (w : World)

theorem run_append_bytes (base : Nat) (n : Nat) (v : Value) (bs : List UInt8) (hown : Own w base v n bs) (B m c : Nat) (A : Option Addr) (news : List UInt8) (hr : Bytes w B A m news)
    (hbytes : n + m ≤ 140737488355328) (hbase : base ≤ w.heap.size) :
    ∃ v' w', (Builtin.append_ #[22, 22] 22 #[v, .slice A m c]).run Try.prog w = .ok v' w' ∧ Own w' base v' (n + m) (bs ++ news) ∧ w.grownBy w' v.ownBlock ∧
      (v'.ownBlock = v.ownBlock ∨ v'.ownBlock = some w.heap.size) := by
  obtain ⟨i0, hi, hz0, hz1, hz2⟩ := info_parts info_u8
  have hl := hr.len
  rcases A with _ | ad
  · have hm : m = 0 := by
      rcases Nat.eq_zero_or_pos m with h0 | h0
      · exact h0
      · obtain ⟨_, _, h, _⟩ := hr.at_ h0
        cases h
    subst hm
    obtain rfl : news = [] := List.eq_nil_of_length_eq_zero hl
    refine ⟨v, w, ?_, by simpa using hown, World.grownBy.refl w _, .inl rfl⟩
    have hu := Try.underlying22
    rcases hown.2 with ⟨rfl, rfl⟩ | ⟨g, cap, cur, rfl, _, _, hnc, _⟩
    · simp [Builtin.append_, run_underlying hu, sizeOf, typeInfo, hi, Builtin.lenOf, Builtin.firstCells]
    · simp [Builtin.append_, run_underlying hu, sizeOf, typeInfo, hi, Builtin.lenOf, Builtin.firstCells, hnc, storeCells]
  · have hcells : ∀ j u, (bv news)[j]? = some u → w.cell? (ad.add j) = some u := by
      intro j u hu
      have hp : 0 < (bv news).length := by
        rcases Nat.eq_zero_or_pos (bv news).length with h0 | h0
        · rw [List.eq_nil_of_length_eq_zero h0] at hu; cases hu
        · exact h0
      obtain ⟨ad', e, hc⟩ := hr.src hp
      cases e
      exact hc j u hu
    obtain ⟨v', w', hrun, h2, h3, _, h5⟩ := run_append_own_at (P := Try.prog) w base 22 22 5 i0 (.int .u8 0) 1 1 Try.underlying22 hi hz0 hz1 hz2 rfl (by omega) v n (bv bs) hown ad m c (bv news)
      (by rw [bv_length]; omega) hcells (bv_one _) (by unfold maxLen; omega) (by omega) hbase
    refine ⟨v', w', hrun, ?_, h3, h5⟩
    unfold Own
    rw [bv_append]
    exact h2

theorem wp_append_bytes {o : Oper} {a : Act} {K : Act → World → Prop} {Q : Exit → Act → World → Prop} (s x : Operand)
    (ho : o.op = .call { callee := .builtin .append, args := #[s, x], argTypes := #[22, 22] }) (hty : o.type = 22)
    (base n : Nat) (v : Value) (bs : List UInt8) (hs : a.eval s = v) (hown : Own w base v n bs) (B : Nat) (A : Option Addr) (m c : Nat) (news : List UInt8) (hx : a.eval x = .slice A m c) (hr : Bytes w B A m news)
    (hbytes : n + m ≤ 140737488355328) (hbase : base ≤ w.heap.size)
    (h : ∀ v' w', Own w' base v' (n + m) (bs ++ news) → w.grownBy w' v.ownBlock → (v'.ownBlock = v.ownBlock ∨ v'.ownBlock = some w.heap.size) → K (a.put o.dst v') w') : o.wp Try.prog a w K Q := by
  obtain ⟨v', w', hrun, h2, h3, h4⟩ := run_append_bytes w base n v bs hown B m c A news hr hbytes hbase
  unfold Oper.wp execOp
  simp only [ho, hty, resolve, invoke, builtin, Sem.run_bind, Sem.run_pure, Result.andThen_ok, List.map_toArray, List.map_cons, List.map_nil, hs, hx, hrun]
  exact h v' w' h2 h3 h4

theorem wpList_append_bytes {ops : Array Oper} {rest : List Oper} {o : Oper} {a : Act} {Q : Exit → Act → World → Prop} (hgd : o.guard = none) (s x : Operand)
    (ho : o.op = .call { callee := .builtin .append, args := #[s, x], argTypes := #[22, 22] }) (hty : o.type = 22)
    (base n : Nat) (v : Value) (bs : List UInt8) (hs : a.eval s = v) (hown : Own w base v n bs) (B : Nat) (A : Option Addr) (m c : Nat) (news : List UInt8) (hx : a.eval x = .slice A m c) (hr : Bytes w B A m news)
    (hbytes : n + m ≤ 140737488355328) (hbase : base ≤ w.heap.size)
    (h : ∀ v' w', Own w' base v' (n + m) (bs ++ news) → w.grownBy w' v.ownBlock → (v'.ownBlock = v.ownBlock ∨ v'.ownBlock = some w.heap.size) → wpList Try.prog ops Q rest (a.put o.dst v') w') : wpList Try.prog ops Q (o :: rest) a w :=
  wpList_plain hgd fun _ hK => wp_append_bytes w s x ho hty base n v bs hs hown B A m c news hx hr hbytes hbase fun v' w' h2 h3 h4 => hK _ _ (h v' w' h2 h3 h4)

theorem step_append_bytes {ops : Array Oper} {o : Oper} {a : Act} {K : Act → World → Prop} {Q : Exit → Act → World → Prop} {E : Prop} (hgd : o.guard = none) (s x : Operand)
    (ho : o.op = .call { callee := .builtin .append, args := #[s, x], argTypes := #[22, 22] }) (hty : o.type = 22)
    (base n : Nat) (v : Value) (bs : List UInt8) (hs : a.eval s = v) (hown : Own w base v n bs) (B : Nat) (A : Option Addr) (m c : Nat) (news : List UInt8) (hx : a.eval x = .slice A m c) (hr : Bytes w B A m news)
    (hbytes : n + m ≤ 140737488355328) (hbase : base ≤ w.heap.size)
    (h : ∀ v' w', Own w' base v' (n + m) (bs ++ news) → w.grownBy w' v.ownBlock → (v'.ownBlock = v.ownBlock ∨ v'.ownBlock = some w.heap.size) → K (a.put o.dst v') w') :
    if Region.wanted o (yielded ops a.tmps) = true then Oper.wp Try.prog o a w K Q else E := by
  have hw : Region.wanted o (yielded ops a.tmps) = true := by simp [Region.wanted, hgd]
  rw [if_pos hw]
  exact wp_append_bytes w s x ho hty base n v bs hs hown B A m c news hx hr hbytes hbase h
end

/-- 'string(b)' of a slice of bytes -/
theorem convert_bytes (A : Option Addr) (n c B : Nat) (bs : List UInt8) (w : World) (h : Bytes w B A n bs) : (convert 22 9 (.slice A n c)).run Try.prog w = .ok (.string ⟨bs.toArray⟩) w := by
  have hl := h.len
  subst hl
  rcases A with _ | ad
  · have hm : bs = [] := by
      rcases bs with _ | ⟨x, bs⟩
      · rfl
      · obtain ⟨_, _, e, _⟩ := h.at_ (by simp)
        cases e
    subst hm
    exact run_convert_bytes_nil w 22 5 Try.underlying22 Try.underlying5 _ _ 9 Try.underlying9
  · refine run_convert_bytes_back w 22 9 5 ad c bs Try.underlying22 Try.underlying5 Try.underlying9 fun j hj => ?_
    obtain ⟨b, off, e, _, hc⟩ := h.at_ (by omega)
    cases e
    rw [show (Addr.add ⟨b, off, none⟩ j) = ⟨b, off + j, none⟩ from by simp [Addr.add]]
    exact hc j hj

theorem Next_any (A : Option Addr) (n c : Nat) (bs : List UInt8) (at_ : Int) (w : World) (h : Bytes w w.heap.size A n bs) (hn : n ≤ 9223372036854775807) (hc : n ≤ c) (h63 : at_ ≤ 9223372036854775807) (h64 : -9223372036854775808 ≤ at_) :
    Calls Try.prog 17 #[.slice A n c, .int .i64 at_] w (NextPost w (nextF bs at_)) := by
  by_cases ha : at_ < 0 ∨ (n : Int) < at_
  · exact Next_range A n c bs at_ w h hn ha h63 h64
  · obtain ⟨k, rfl⟩ := Int.eq_ofNat_of_zero_le (a := at_) (by omega)
    by_cases h8 : n < k + 8
    · exact Next_short A n c k bs w h hn (by omega) h8 hc
    · obtain ⟨b, off, rfl, _⟩ := h.at_ (by omega)
      obtain ⟨p, rfl⟩ : ∃ p, n = k + p := ⟨n - k, by omega⟩
      obtain ⟨q, rfl⟩ : ∃ q, c = k + q := ⟨c - k, by omega⟩
      exact Next_rest b off p q k bs w h hn (by omega) (by omega)
end Go.Proofs.Ytfmjlkgbaanlhaa
