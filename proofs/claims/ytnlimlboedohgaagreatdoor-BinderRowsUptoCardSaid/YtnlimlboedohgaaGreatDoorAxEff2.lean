/-
  append, copy, clear, strings that share their bytes, iterators, new maps.
-/
import Derived.Test.YtnlimlboedohgaaGreatDoorAxEff
import Derived.Deep.AppendSrc
namespace Go.Proofs.YtnlimlboedohgaaGreatDoor.Ax
open Go.RowKit
set_option linter.unusedVariables false
set_option linter.unusedSimpArgs false

section
variable {P : Program} {c : Cx} {g : Gm} {h : Hp} {nx nx' : Nat} {w w' : World} {t : Tr RV} {ρ : Operand -> Value}
theorem firstCells_bytes {l : List Nat} (hl : ∀ x ∈ l, x < 256) {k : Nat} (hk : k <= l.length) (w : World) : (Builtin.firstCells 1 k (.string (ofCodes l))).run P w = .ok (byteVals (l.take k)).toArray w := by
 have e1 : (ofCodes l).extract 0 k = ofCodes (l.take k) := by
  unfold ofCodes
  rw [ByteArray.extract_mk, List.drop_zero, Nat.sub_zero, List.map_take]
 have := ofCodes_cells (l := l.take k) fun x hx => hl x (List.mem_of_mem_take hx)
 simp only [Builtin.firstCells, e1, this]
 rfl
/-- what a source yields -/
theorem src_some {β : Type} {sz : Nat} {x : RV} {u : Value} {tx : TypeId} {k : Nat -> List RV -> Option β} {y : β} (hf : srcR h sz x k = some y) (hx : R g c.env x u) (hw : RW c g h nx w) (hk : srcKind P tx = true) :
  ∃ m cells, k m cells = some y /\ ∃ news, RL g c.env cells news /\ Src P sz tx u m news w /\ ∀ j, j <= m -> (Builtin.firstCells sz j u).run P w = .ok (news.take (j * sz)).toArray w := by
 have hkind : (∃ e', P.underlying tx = some (.slice e')) \/ P.underlying tx = some .string := by
  unfold srcKind at hk
  split at hk
  ·rename_i e he
   exact .inl ⟨e, he⟩
  ·rename_i he
   exact .inr he
  ·cases hk
 have hnil : ∀ {a : Option Addr} {cap : Nat}, Src P sz tx (.slice a 0 cap) 0 [] w /\ ∀ j, j <= 0 -> (Builtin.firstCells sz j (.slice a 0 cap)).run P w = .ok (([] : List Value).take (j * sz)).toArray w := fun {a cap} => by
  have h0 : ∀ w : World, (Builtin.firstCells sz 0 (.slice a 0 cap)).run P w = .ok ([] : List Value).toArray w := fun w => by
   cases a <;> simp [Builtin.firstCells, loadCells, loadCellsFrom]
  exact ⟨⟨hkind, fun _ => rfl, h0 w, h0 w.drew, by simp, fun _ hh => by cases hh⟩, fun j hj => by
   have : j = 0 := by omega
   subst this
   simpa using h0 w⟩
 unfold srcR at hf
 split at hf <;> try cases hf
 ·rename_i G e off m s
  cases hb : Nat.beq s sz with
  | false => rw [hb] at hf; cases hf
  | true =>
   rw [hb, cond_true] at hf
   have hs := Nat.eq_of_beq_eq_true hb
   subst hs
   split at hf <;> try cases hf
   rename_i el z nxe cs hc
   rw [dropR_eq] at hf
   obtain ⟨h1, h2⟩ := takeO_some hf
   cases hone : ((cs.drop off).take (m * s)).all oneR with
   | false => rw [hone] at h2; cases h2
   | true =>
    rw [hone, cond_true] at h2
    cases hx with
    | sl hq hcap hn =>
     rename_i q n cap
     have hl := (hw.at_ hc hq).2.1
     rw [List.length_drop] at h1
     by_cases h0 : off <= cs.length
     ·obtain ⟨news, hrange, hlen, hrl⟩ := hl.range (off := off) (n := m * s) (by omega)
      have hcells : ∀ j u, news[j]? = some u -> w.cell? ((⟨q, off, none⟩ : Addr).add j) = some u := fun j u hj => by
       rw [add_off]
       exact hrange j u hj
      refine ⟨m, _, h2, news, hrl, ⟨hkind, fun _ => rfl, run_firstCells_some w s m ⟨q, off, none⟩ m cap news hlen hcells, run_firstCells_some w.drew s m ⟨q, off, none⟩ m cap news hlen (by simpa using hcells), hlen, fun y hy => ?_⟩, fun j hj => ?_⟩
      ·obtain ⟨k', hk', rfl⟩ := List.getElem_of_mem hy
       exact oneR_R (List.all_eq_true.1 hone _ (List.getElem_mem (by rw [hrl.len]; exact hk'))) (hrl.at_ k' (by rw [hrl.len]; exact hk') hk')
      ·refine run_firstCells_some w s j ⟨q, off, none⟩ m cap (news.take (j * s)) ?_ fun i v hi => hcells i v ?_
       ·rw [List.length_take, hlen]
        have := Nat.mul_le_mul_right s hj
        omega
       ·rw [List.getElem?_take] at hi
        split at hi
        ·exact hi
        ·cases hi
     ·have hm0 : m * s = 0 := by omega
      have hz : (cs.drop off).take (m * s) = [] := by rw [hm0]; rfl
      rw [hz] at h2
      have hlc : ∀ (w : World) (j : Nat), j <= m -> (Builtin.firstCells s j (.slice (some ⟨q, off, none⟩) m cap)).run P w = .ok ([] : List Value).toArray w := fun w j hj => by
       have : j * s = 0 := by
        have := Nat.mul_le_mul_right s hj
        omega
       simp [Builtin.firstCells, this, loadCells, loadCellsFrom]
      exact ⟨m, _, h2, [], .nil, ⟨hkind, fun _ => rfl, hlc w m (Nat.le_refl _), hlc w.drew m (Nat.le_refl _), by simp [hm0], fun _ hh => by cases hh⟩, fun j hj => by simpa using hlc w j hj⟩
 ·rename_i l
  cases hb : Nat.beq sz 1 with
  | false => rw [hb] at hf; cases hf
  | true =>
   rw [hb, cond_true] at hf
   have hs := Nat.eq_of_beq_eq_true hb
   subst hs
   rw [forceRs_eq _ _ (fun r hr s => by
    obtain ⟨n, _, rfl⟩ := List.mem_map.1 hr
    simp)] at hf
   cases hx with
   | str hl =>
    refine ⟨l.length, _, hf, byteVals l, byteVals_RL _ _ _, ⟨hkind, fun _ => ?_, ?_, ?_, by simp [byteVals], fun y hy => ?_⟩, fun j hj => ?_⟩
    ·simp [Builtin.lenOf, size_ofCodes]
    ·have := firstCells_bytes (P := P) hl (Nat.le_refl _) w
     rwa [List.take_length] at this
    ·have := firstCells_bytes (P := P) hl (Nat.le_refl _) w.drew
     rwa [List.take_length] at this
    ·obtain ⟨n, _, rfl⟩ := List.mem_map.1 hy
     rfl
    ·rw [firstCells_bytes hl hj, Nat.mul_one]
     simp [byteVals, List.map_take]
 ·cases hx with
  | s0 hq => exact ⟨0, [], hf, [], .nil, hnil⟩
 ·cases hx with
  | se a cap => exact ⟨0, [], hf, [], .nil, hnil⟩
 ·cases hx
  exact ⟨0, [], hf, [], .nil, hnil⟩
theorem run_append_zero {t tx ty e : TypeId} {i : TypeInfo} (ht : P.underlying t = some (.slice e)) (hi : P.info? e = some i) (base : Option Addr) (sLen sCap : Nat) (x : Value) (hs : Src P i.size tx x 0 [] w) (hle : sLen <= sCap) :
  (Builtin.append_ #[t, tx] ty #[.slice base sLen sCap, x]).run P w = .ok (.slice base sLen sCap) w := by
 rcases hs.kind with ⟨e', hk⟩ | hk <;> cases base <;> simp [Builtin.append_, run_underlying ht, run_underlying hk, sizeOf, typeInfo, hi, hs.len, hle, hs.cells, storeCells]
theorem append_does {ty tx tt : TypeId} {r x r' : RV} {h' : Hp} {v u : Value} (hf : appendR P h nx ty tx r x = some (r', h', nx')) (hr : R g c.env r v) (hx : R g c.env x u) (hw : RW c g h nx w) : Does P c c g (Builtin.append_ #[ty, tx] tt #[v, u]) w r' h' nx' := by
 unfold appendR at hf
 split at hf <;> try cases hf
 rename_i e ht
 split at hf <;> try cases hf
 rename_i i hi
 split at hf <;> try cases hf
 rename_i z hz
 cases hb : Nat.beq z.cells.size i.size && Nat.ble 1 i.size && isSlice r && srcKind P tx with
 | false => rw [hb] at hf; cases hf
 | true =>
 rw [hb, cond_true] at hf
 rw [Bool.and_eq_true, Bool.and_eq_true, Bool.and_eq_true] at hb
 have hzs := Nat.eq_of_beq_eq_true hb.1.1.1
 have hsz := Nat.le_of_ble_eq_true hb.1.1.2
 obtain ⟨m, cells, hf2, news, hrl, hsrc, _⟩ := src_some hf hx hw hb.2
 replace hf := hf2
 clear hf2
 have hnl : news.length = m * i.size := hsrc.newsLen
 cases hm0 : Nat.beq m 0 with
 | true =>
  rw [hm0, cond_true] at hf
  cases hf
  have := Nat.eq_of_beq_eq_true hm0
  subst this
  have hn0 : news = [] := List.eq_nil_of_length_eq_zero (by rw [hnl]; simp)
  subst hn0
  have hv : ∃ base sLen sCap, v = .slice base sLen sCap /\ sLen <= sCap := by
   have hs := hb.1.2
   unfold isSlice at hs
   split at hs
   ·cases hr with
    | sl hq hc hn => exact ⟨_, _, _, rfl, hc⟩
   ·cases hr with
    | s0 hq => exact ⟨_, _, _, rfl, Nat.le_refl _⟩
   ·cases hr with
    | se a cap => exact ⟨_, _, _, rfl, Nat.zero_le _⟩
   ·cases hr
    exact ⟨_, _, _, rfl, Nat.le_refl _⟩
   ·cases hs
  obtain ⟨base, sLen, sCap, rfl, hle⟩ := hv
  exact ⟨g, _, w, run_append_zero ht hi base sLen sCap u hsrc hle, hr, Ext.refl g, hw⟩
 | false =>
 rw [hm0, cond_false] at hf
 have hmpos : 0 < m := by
  rcases Nat.eq_zero_or_pos m with hh | hh
  ·subst hh; cases hm0
  ·exact hh
 have fresh : ∀ (base : Option Addr), v = .slice base 0 0 -> (bif Nat.ble (m * i.bytes) 1000000000 && Nat.ble m 1000000000 then forceN m fun len => forceN (nx + 1) fun nx' => putT h nx (.cells e false 1 [(0, cells)]) fun h' => some (RV.sl nx 0 0 len i.size, h', nx') else none) = some (r', h', nx') -> Does P c c g (Builtin.append_ #[ty, tx] tt #[v, u]) w r' h' nx' := fun base hv hf => by
  subst hv
  cases hbb : Nat.ble (m * i.bytes) 1000000000 && Nat.ble m 1000000000 with
  | false => rw [hbb] at hf; cases hf
  | true =>
   rw [hbb, cond_true, forceN_eq, forceN_eq, putT_eq] at hf
   cases hf
   rw [Bool.and_eq_true] at hbb
   have b1 := Nat.le_of_ble_eq_true hbb.1
   have b2 := Nat.le_of_ble_eq_true hbb.2
   have hold : (Builtin.firstCells i.size 0 (.slice base 0 0)).run P w.drew = .ok ([] : List Value).toArray w.drew := by
    cases base <;> simp [Builtin.firstCells, loadCells, loadCellsFrom]
   have hrun := run_append_grow_src (P := P) w ty tx tt e i z ht hi hz base 0 0 [] hold u m news hsrc (by omega) (by omega) (growslice_fits (by omega) (by simp only [Nat.zero_add]; omega))
   simp only [Nat.zero_add, List.nil_append] at hrun
   have hge := grownCap_ge w m 0 e
   have hfull : (news.toArray ++ Builtin.zeroCells z.cells (grownCap w m 0 e - m)).size = grownCap w m 0 e * i.size := by
    simp only [Array.size_append, List.size_toArray, size_zeroCells, hzs, hnl, <- Nat.add_mul]
    congr 1
    omega
   exact ⟨_, _, _, hrun, .sl gSet_self hge (by omega), gSet_ext (hw.free nx 0 (Nat.le_refl _)), hw.made hrl (Builtin.zeroCells z.cells (grownCap w m 0 e - m)) (by simp)⟩
 split at hf <;> try cases hf
 ·rename_i G mb n s
  cases hbb : Nat.beq s i.size && Nat.ble ((n + m) * i.bytes) 1000000000 && Nat.ble (n + m) 1000000000 with
  | false => rw [hbb] at hf; cases hf
  | true =>
  rw [hbb, cond_true] at hf
  rw [Bool.and_eq_true, Bool.and_eq_true] at hbb
  have hs := Nat.eq_of_beq_eq_true hbb.1.1
  have b1 := Nat.le_of_ble_eq_true hbb.1.2
  have b2 := Nat.le_of_ble_eq_true hbb.2
  subst hs
  split at hf <;> try cases hf
  rename_i el nxe mem hget
  cases hel : Nat.beq el e with
  | false => rw [hel] at hf; cases hf
  | true =>
  rw [hel, cond_true] at hf
  have := Nat.eq_of_beq_eq_true hel
  subst this
  split at hf <;> try cases hf
  rename_i cs hfind
  obtain ⟨hk, hf2⟩ := takeO_some hf
  replace hf := hf2
  clear hf2
  rw [appO_eq] at hf
  obtain ⟨rk, hf2, hkeep⟩ := keepM_some (n * i.size) mem 3 fun r' => forceN (nxe + 1) fun nxe' => forceN (n + m) fun len => putT h G (.cells el false nxe' ((nxe, cs.take (n * i.size) ++ cells) :: r')) fun h' => some (RV.sl G nxe 0 len i.size, h', nx)
  rw [hf2, forceN_eq, forceN_eq, putT_eq] at hf
  cases hf
  cases hr with
  | sl hq hc hn =>
  rename_i q nq cap
  have hm := findM_mem hfind
  have hok := hw.ok G _ hget
  obtain ⟨q', n', hq', hK, hlies⟩ := hok.2 mb cs hm
  rw [hq] at hq'
  cases hq'
  have hnone : g G nxe = none := hok.1 nxe (Nat.le_refl _)
  have hlies2 := hlies
  obtain ⟨arr, fz, a1, af, a0, a2, a3⟩ := hlies2
  have hfz := af.1 rfl
  subst hfz
  by_cases hroom : n + m <= cap
  ·have hmul : (n + m) * i.size <= cap * i.size := Nat.mul_le_mul_right _ hroom
   rw [Nat.add_mul] at hmul
   have hfit : n * i.size + news.length <= arr.size := by omega
   have hcell : ∀ j, j < news.length -> (w.cell? ⟨q, 0 + n * i.size + j, none⟩).isSome = true := fun j hj => by
    have : n * i.size + j < arr.size := by omega
    simp [World.cell?, a1, this]
   have hfrz : ∀ j, j < news.length -> w.frozen? ⟨q, 0 + n * i.size + j, none⟩ = false := fun j hj => by simp [World.frozen?, a1]
   have hrun := run_append_room_src (P := P) w ty tx tt el i ht hi q 0 n cap u m news hsrc hroom hcell hfrz
   rw [Nat.zero_add] at hrun
   have hset := setCells_heap w q news (n * i.size) arr el (0, 0) a1 hfit
   exact ⟨_, _, _, hrun, .sl gSet_self hroom hn, gSet_ext hnone, hw.room hget hm hq a1 hk hrl hfit hkeep ⟨hset.2.2.1, hset.2.2.2.1, hset.2.2.2.2.1, hset.2.2.2.2.2⟩ hset.2.1 hset.1⟩
  ·obtain ⟨olds, hor, hol, holds⟩ := hlies.range (off := 0) (n := n * i.size) (by omega)
   have hold : (Builtin.firstCells i.size n (.slice (some ⟨q, 0, none⟩) n cap)).run P w.drew = .ok olds.toArray w.drew :=
    run_firstCells_some w.drew i.size n ⟨q, 0, none⟩ n cap olds hol fun j v hj => by
     rw [add_off]
     have := hor j v hj
     simpa using this
   have hrun := run_append_grow_src (P := P) w ty tx tt el i z ht hi hz (some ⟨q, 0, none⟩) n cap olds hold u m news hsrc (by omega) (by omega) (growslice_fits (by omega) (by omega))
   have hge := grownCap_ge w (n + m) cap el
   have hfull : ((olds ++ news).toArray ++ Builtin.zeroCells z.cells (grownCap w (n + m) cap el - (n + m))).size = grownCap w (n + m) cap el * i.size := by
    simp only [Array.size_append, List.size_toArray, List.length_append, size_zeroCells, hzs, hol, hnl, <- Nat.add_mul]
    congr 1
    omega
   rw [List.drop_zero] at holds
   exact ⟨_, _, _, hrun, .sl gSet_self hge (by omega), gSet_ext hnone, hw.moved hget hq (holds.append hrl) (Builtin.zeroCells z.cells (grownCap w (n + m) cap el - (n + m))) (by simp) ⟨_, hget, cs, hm⟩ hkeep⟩
 ·rename_i lv
  have hs := hb.1.2
  have : lv = .slice none 0 0 := by
   unfold isSlice at hs
   split at hs <;> rename_i e0 <;> first | cases e0 | skip
   ·rfl
   ·cases hs
  cases hr
  exact fresh none this hf
 ·cases hr with
  | s0 hq => exact fresh _ rfl hf
end
end Go.Proofs.YtnlimlboedohgaaGreatDoor.Ax
