/-
  A number stored as four bytes: frame.put into a block that is known whole; the reference's four in a new block.
-/
import Derived.Test.YtfmjlkgbaanlhaaFrSum
import Derived.Laws.CopyOwn
namespace Go.Proofs.Ytfmjlkgbaanlhaa
open Go.RowKit
set_option linter.unusedVariables false
set_option linter.unusedSimpArgs false

/-- a number as four bytes -/
def be4 (n : Nat) : List UInt8 := [UInt8.ofNat (n / 16777216), UInt8.ofNat (n / 65536), UInt8.ofNat (n / 256), UInt8.ofNat n]
theorem ofNat_toNat (n : Nat) : (UInt8.ofNat n).toNat = n % 256 := by simp

/-- block g is known whole: these bytes -/
def BB (w : World) (g : Nat) (bs : List UInt8) : Prop := w.heap[g]? = some (.cells (bv bs).toArray 5 (0, 0))
section
variable {w w' : World} {g B : Nat} {bs : List UInt8}
theorem BB.lt (h : BB w g bs) : g < w.heap.size := by
  rcases Nat.lt_or_ge g w.heap.size with hlt | hge
  · exact hlt
  · unfold BB at h; rw [Array.getElem?_eq_none hge] at h; cases h
theorem BB.cell (h : BB w g bs) {j : Nat} (hj : j < bs.length) : w.cell? ⟨g, j, none⟩ = some (.int .u8 (bs[j].toNat : Int)) := by
  rw [cell_of_row w g j _ _ (0, 0) h]; simp [bv, hj]
theorem BB.frozen (h : BB w g bs) (j : Nat) : w.frozen? ⟨g, j, none⟩ = false := by unfold BB at h; simp [World.frozen?, h]
theorem BB.bytes (h : BB w g bs) (hB : g < B) : Bytes w B (some ⟨g, 0, none⟩) bs.length bs :=
  ⟨rfl, fun _ => ⟨g, 0, rfl, hB, fun j hj => by rw [Nat.zero_add]; exact h.cell hj⟩⟩
theorem BB.part (h : BB w g bs) (hB : g < B) (k m : Nat) (hm : k + m ≤ bs.length) : Bytes w B (some ⟨g, k, none⟩) m ((bs.drop k).take m) :=
  ⟨by simp; omega, fun _ => ⟨g, k, rfl, hB, fun j hj => by
    have hl : k + j < bs.length := by simp at hj; omega
    rw [h.cell hl]; simp⟩⟩
theorem BB.set (h : BB w g bs) (j : Nat) (c : UInt8) : BB (w.setCell ⟨g, j, none⟩ (.int .u8 (c.toNat : Int))) g (bs.set j c) := by
  unfold BB at h ⊢
  simp [World.setCell, Array.getElem?_modify, h, bv]
theorem BB.below (h : BB w g bs) (hb : Below B w w') (hg : g < B) : BB w' g bs := (hb.block g hg).trans h
theorem BB.new (w : World) (bs : List UInt8) : BB (w.alloc (.cells (bv bs).toArray 5)) w.heap.size bs := heap_alloc_new w _
theorem BB.alloc (h : BB w g bs) (o : Obj) : BB (w.alloc o) g bs := (Below.heap_alloc w o g h.lt).trans h
end

set_option maxHeartbeats 400000 in
theorem four_any (n : Nat) (w : World) (hn : n < 4294967296) :
    Calls Try.prog 28 #[.int .u32 (n : Int)] w fun e w' => e = .returned (.slice (some ⟨w.heap.size, 0, none⟩) 4 4) ∧ w' = w.alloc (.cells (bv (be4 n)).toArray 5) := by
  have e0 : (n : Int) / 16777216 = ((UInt8.ofNat (n / 16777216)).toNat : Int) := by rw [ofNat_toNat]; omega
  have e1 : (n : Int) / 65536 % 256 = ((UInt8.ofNat (n / 65536)).toNat : Int) := by rw [ofNat_toNat]; omega
  have e2 : (n : Int) / 256 % 256 = ((UInt8.ofNat (n / 256)).toNat : Int) := by rw [ofNat_toNat]; omega
  have e3 : (n : Int) % 256 = ((UInt8.ofNat n).toNat : Int) := by rw [ofNat_toNat]; omega
  have H0 := Lib.hid e0
  have H1 := Lib.hid e1
  have H2 := Lib.hid e2
  have H3 := Lib.hid e3
  clear e0 e1 e2 e3
  go_enter Try.func28, Try.ntmps28
  go_wp2_with fail
  go_ret
  rw [H0.out, H1.out, H2.out, H3.out]
  exact ⟨rfl, rfl⟩

theorem splice_set (bs l : List UInt8) (off k : Nat) (c : UInt8) (hc : l[k]? = some c) (h : off + k < bs.length) : (splice bs off (l.take k)).set (off + k) c = splice bs off (l.take (k + 1)) := by
  have hk : k < l.length := (List.getElem?_eq_some_iff.1 hc).1
  apply List.ext_getElem?
  intro i
  have e1 : (l.take k).length = k := by simp; omega
  have e2 : (l.take (k + 1)).length = k + 1 := by simp; omega
  have e3 : (bs.take off).length = off := by simp; omega
  simp only [splice, List.getElem?_set, List.getElem?_append, e1, e2, e3, List.getElem?_take, List.getElem?_drop, List.length_append, List.length_drop]
  by_cases h1 : i < off
  · have h2 : ¬ off + k = i := by omega
    simp only [if_pos h1, if_neg h2]
  · by_cases h2 : off + k = i
    · subst h2
      have h3 : ¬ off + k < off := by omega
      have h4 : off + k < off + (k + (bs.length - (off + k))) := by omega
      have h5 : off + k - off < k + 1 := by omega
      simp only [if_neg h3, Nat.add_sub_cancel_left, hc]
      simp
      omega
    · by_cases h3 : i - off < k
      · have h4 : i - off < k + 1 := by omega
        simp only [if_neg h1, if_neg h2, if_pos h3, if_pos h4]
      · have h4 : ¬ i - off < k + 1 := by omega
        simp only [if_neg h1, if_neg h2, if_neg h3, if_neg h4]
        congr 1
        omega
theorem put_byte (v k : Nat) (hk : k < 4) : ∃ c, (be4 v)[k]? = some c ∧ (v : Int) / 2 ^ (24 - 8 * k) % 256 = (c.toNat : Int) := by
  match k, hk with
  | 0, _ => exact ⟨_, rfl, by rw [ofNat_toNat]; simp⟩
  | 1, _ => exact ⟨_, rfl, by rw [ofNat_toNat]; simp⟩
  | 2, _ => exact ⟨_, rfl, by rw [ofNat_toNat]; simp⟩
  | 3, _ => exact ⟨_, rfl, by rw [ofNat_toNat]; simp⟩
theorem put_step {wr : World} {g off v k : Nat} {bs : List UInt8} (h : BB wr g (splice bs off ((be4 v).take k))) (hk : k < 4) (hl : off + 4 ≤ bs.length) :
    BB (wr.setCell ⟨g, off + k, none⟩ (.int .u8 ((v : Int) / 2 ^ (24 - 8 * k) % 256))) g (splice bs off ((be4 v).take (k + 1))) := by
  obtain ⟨c, hc, e⟩ := put_byte v k hk
  rw [e, ← splice_set bs (be4 v) off k c hc (by omega)]
  exact h.set _ _

set_option maxHeartbeats 400000 in
theorem put_any (g off n c v B : Nat) (bs : List UInt8) (w0 w : World) (hn : 4 ≤ n) (_hv : v < 4294967296) (h : BB w g bs) (hl : off + 4 ≤ bs.length) (hb : Below B w0 w) (hg : B ≤ g) :
    Calls Try.prog 26 #[.slice (some ⟨g, off, none⟩) n c, .int .u32 (v : Int)] w fun e w' => e = .returned (.tuple #[]) ∧ BB w' g (splice bs off (be4 v)) ∧ Below B w0 w' := by
  go_enter Try.func26, Try.ntmps26
  go_wp2_with fail
  go_loopw [5] (fun i wr => ∃ k : Nat, k ≤ 4 ∧ i = .int .i64 k ∧ BB wr g (splice bs off ((be4 v).take k)) ∧ Below B w0 wr) (fun i _ => 4 - (intOf i).toNat)
  case atStart => exact ⟨0, Nat.zero_le _, rfl, by simpa [splice] using h, hb⟩
  case round =>
    obtain ⟨k, hk, rfl, hB, hbr⟩ := hrel
    by_cases hlt : k < 4
    · have hlen : (splice bs off ((be4 v).take k)).length = bs.length := by apply length_splice; simp [be4]; omega
      obtain ⟨u, hu⟩ : ∃ u : Int, wr.cell? ⟨g, off + k, none⟩ = some (.int .u8 u) := ⟨_, hB.cell (j := off + k) (by omega)⟩
      have hf := hB.frozen (off + k)
      clear hlen
      go_wp2
      go_roundw
      case rel => exact ⟨k + 1, by omega, by go_num, put_step hB hlt hl, hbr.setCell hg _⟩
      case measure => simp [intOf]; omega
    · obtain rfl : k = 4 := by omega
      go_wp2
      go_end0
      exact ⟨rfl, hB, hbr⟩
end Go.Proofs.Ytfmjlkgbaanlhaa
