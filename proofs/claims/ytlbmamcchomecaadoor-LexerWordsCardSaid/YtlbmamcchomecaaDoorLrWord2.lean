/-
  The reference's list of keywords, and its Word.
-/
import Derived.Test.YtlbmamcchomecaaDoorLrWord
namespace Go.Proofs.YtlbmamcchomecaaDoor
open Go.RowKit
set_option linter.unusedVariables false
set_option linter.unusedSimpArgs false

def loC (c : UInt8) : UInt8 := if 65 ≤ c.toNat ∧ c.toNat ≤ 90 then UInt8.ofNat (c.toNat + 32) else c
def lowWords : List (List UInt8) := keywords.map (·.map loC)
def lowBlock : Obj := .cells (lowWords.map kwS).toArray 9
theorem low_up : lowWords.map upL = keywords := by decide +kernel
theorem low_length : lowWords.length = 87 := by decide +kernel
theorem kw_length : keywords.length = 87 := by decide +kernel
set_option maxRecDepth 100000 in
set_option maxHeartbeats 1000000 in
theorem lowWords_ref (w : World) : Calls Tryd.prog 28 #[] w fun e w' => e = .returned (.slice (some ⟨w.heap.size, 0, none⟩) 87 87) ∧ w.alloc lowBlock = w' := by
  go_enter Tryd.func28, Tryd.ntmps28
  go_wp2_with fail
  go_ret
  exact ⟨rfl, congrArg (fun o => w.alloc o) (by kernel_rfl)⟩
theorem low_cell {w : World} {B : Nat} (h : w.heap[B]? = some lowBlock) {j : Nat} (hj : j < 87) : w.cell? ⟨B, j, none⟩ = some (.string ⟨(lowWords.getD j []).toArray⟩) := by
  rw [cell_of_row w B j _ _ (0, 0) h]
  simp only [List.getElem?_toArray, List.getElem?_map]
  rw [List.getElem?_eq_getElem (by rw [low_length]; exact hj)]
  simp [kwS, List.getD, List.getElem?_eq_getElem (show j < lowWords.length by rw [low_length]; exact hj)]
theorem low_at {j : Nat} (hj : j < 87) : upL (lowWords.getD j []) = keywords.getD j [] := by
  have h := congrArg (fun l => l.getD j []) low_up
  simp only [List.getD_eq_getElem?_getD, List.getElem?_map] at h ⊢
  rw [List.getElem?_eq_getElem (show j < lowWords.length by rw [low_length]; exact hj)] at h ⊢
  simpa using h
theorem low_size : lowWords.all (fun l => decide (l.length ≤ 100)) = true := by decide +kernel
theorem low_small {j : Nat} (hj : j < 87) : (lowWords.getD j []).length ≤ 100 := by
  have hm : lowWords.getD j [] ∈ lowWords := by
    rw [List.getD_eq_getElem?_getD, List.getElem?_eq_getElem (show j < lowWords.length by rw [low_length]; exact hj)]
    exact List.getElem_mem _
  simpa using List.all_eq_true.1 low_size _ hm
theorem kw_take {k : Nat} (hk : k < 87) : (keywords.take (k + 1)).map kwS = (keywords.take k).map kwS ++ [kwS (keywords.getD k [])] := by
  rw [List.take_succ_eq_append_getElem (by rw [kw_length]; exact hk), List.map_append]
  simp [List.getD_eq_getElem?_getD, List.getElem?_eq_getElem (show k < keywords.length by rw [kw_length]; exact hk)]
def WsRel (w : World) (v i : Value) (wr : World) : Prop :=
  ∃ k : Nat, k ≤ 87 ∧ i = .int .i64 k ∧ wr.ownsRow w.heap.size 9 1 v k ((keywords.take k).map kwS) ∧ Below w.heap.size w wr ∧ wr.heap[w.heap.size + 1]? = some lowBlock ∧ v.ownBlock ≠ some (w.heap.size + 1)
def WsPost (w : World) (e : Ending) (w' : World) : Prop := ∃ v, e = .returned v ∧ w'.ownsRow w.heap.size 9 1 v 87 (keywords.map kwS) ∧ Below w.heap.size w w'
theorem lt_of_block {w : World} {b : Nat} {o : Obj} (h : w.heap[b]? = some o) : b < w.heap.size := by
  rcases Nat.lt_or_ge b w.heap.size with hlt | hge
  · exact hlt
  · rw [Array.getElem?_eq_none hge] at h; cases h
set_option maxRecDepth 100000 in
set_option maxHeartbeats 1000000 in
theorem words_ref (w : World) : Calls Tryd.prog 13 #[] w (WsPost w) := by
  obtain ⟨i0, hi0, hz0, hz1, hz2⟩ := info_parts info_str
  go_enter Tryd.func13, Tryd.ntmps13
  go_wp2_with fail
  refine (lowWords_ref _).mono ?_
  rintro e w' ⟨rfl, rfl⟩
  have hsz : (w.alloc (.cells #[] 9)).heap.size = w.heap.size + 1 := by simp
  have hown := (own_empty w 9 _ (Nat.le_refl _)).alloc lowBlock
  have hbel : Below w.heap.size w ((w.alloc (.cells #[] 9)).alloc lowBlock) := ((Below.refl _ _).alloc (Nat.le_refl _) _).alloc (by simp) _
  have hblk := heap_alloc_new (w.alloc (.cells #[] 9)) lowBlock
  rw [hsz] at hblk
  rw [hsz]
  clear hsz
  generalize (w.alloc (.cells #[] 9)).alloc lowBlock = w0 at hown hbel hblk ⊢
  go_wp2_with fail
  go_loopw [1, 3] (fun v i wr => WsRel w v i wr) (fun _ i _ => 87 - (intOf i).toNat)
  case atStart => exact ⟨0, by omega, rfl, hown, hbel, hblk, by simp [Value.ownBlock]⟩
  case round =>
    obtain ⟨k, hk, rfl, ho, hb, hblk', hne⟩ := hrel
    clear hown hbel hblk
    by_cases hlt : k < 87
    · have HC := Lib.hid (low_at hlt)
      have hsm := low_small hlt
      have hcell := low_cell hblk' hlt
      have HKT := Lib.hid (kw_take hlt)
      generalize lowWords.getD k [] = lw at HC hsm hcell
      have HO := Lib.hid ho
      have HK := Lib.hid hblk'
      clear ho hblk'
      go_wp2_with fail
      refine (upper_ref ⟨lw.toArray⟩ wr (by rw [mk_size]; omega)).mono ?_
      rintro e w1 ⟨rfl, hb1⟩
      rw [mk_list, HC.out]
      generalize keywords.getD k [] = kw at HKT ⊢
      have ho1 := HO.out.kept (w' := w1) (row := none) ⟨hb1.os, hb1.tape, hb1.output, hb1.size, fun i hi _ => hb1.block i hi⟩ (by rcases h : u1.ownBlock with _ | g; exact .inl rfl; exact .inr (by simp))
      have hlt2 : ∀ g, u1.ownBlock = some g → w.heap.size ≤ g := fun g e => (HO.out.lt g e).1
      have hbk1 := (hb1.block _ (lt_of_block HK.out)).trans HK.out
      have hbb1 := hb.trans (hb1.mono hb.size)
      clear HO HK hb1 hb hcell HC
      go_wp2_with (at_builtin; refine wpList_append_own_at _ rfl (.tmp 12) (.tmp 18) 32 rfl w.heap.size 9 i0 _ 1 16 Tryd.underlying32 hi0 hz0 hz1 hz2 rfl (by omega) u1 k _ rfl (ho1.alloc _) ⟨w1.heap.size, 0, none⟩ 1 1 [.string ⟨kw.toArray⟩] rfl rfl (cell_lit1 _ _ _) ?one ?c3 ?c4 ?c5 ?_)
      case one => intro u hu; obtain rfl := List.mem_singleton.1 hu; rfl
      case c3 => unfold maxLen; omega
      case c4 => omega
      case c5 => exact Nat.le_trans hbb1.size (by simp)
      intro v3 w3 hown3 hg3 _ hat3
      have hb3 : Below w.heap.size w w3 := (hbb1.alloc hbb1.size _).grown hg3 (Nat.le_trans hbb1.size (by simp)) hlt2
      have HO3 : Hid (w3.ownsRow w.heap.size 9 1 v3 (k + 1) ((keywords.take (k + 1)).map kwS)) := Lib.hid (by rw [HKT.out, List.map_take]; exact hown3)
      have hbk3 := (hg3.block _ (by have := lt_of_block hbk1; simp; omega) (fun e => hne e.symm)).trans ((Below.heap_alloc w1 _ _ (lt_of_block hbk1)).trans hbk1)
      have hne3 : v3.ownBlock ≠ some (w.heap.size + 1) := by
        rcases hat3 with e | e
        · rw [e]; exact hne
        · rw [e]; have := lt_of_block hbk1; simp; omega
      have HK3 := Lib.hid hbk3
      clear hown3 hg3 hat3 ho1 hbk3 hbk1
      go_wp2_with fail
      go_roundw
      case rel => exact ⟨k + 1, by omega, by go_num, HO3.out, hb3, HK3.out, hne3⟩
      case measure => simp [intOf]; omega
    · obtain rfl : k = 87 := by omega
      have HO : Hid (wr.ownsRow w.heap.size 9 1 u1 87 (keywords.map kwS)) := Lib.hid (by rw [List.take_of_length_le (by rw [kw_length]; omega)] at ho; exact ho)
      clear ho hblk'
      go_wp2_with fail
      go_ret
      exact ⟨_, rfl, HO.out, hb⟩
end Go.Proofs.YtlbmamcchomecaaDoor
