/-
  Plain lemmas on the CRC register of chapter 10, on words for slices of bytes in memory. No condition, no program.
-/
import Derived.WalkKit
import Derived.WalkSpells
import Derived.WalkLawsBesides
import Derived.Laws.OwnMore
import Derived.Deep.AppendLies
import Derived.Deep.Draws
import Derived.Laws.BitsAllLaws
namespace Go.Proofs.Ytfmjlkgbaanlhaa
open Go.RowKit
set_option linter.unusedVariables false
set_option linter.unusedSimpArgs false

/-! ### The register -/
def crcBit (r : Nat) : Nat := if r % 2 = 1 then (r / 2) ^^^ 2197175160 else r / 2
def crcBits : Nat → Nat → Nat
  | 0, r => r
  | k + 1, r => crcBit (crcBits k r)
def crcByte (r : Nat) (c : UInt8) : Nat := crcBits 8 (r ^^^ c.toNat)
def crc (r : Nat) (bs : List UInt8) : Nat := bs.foldl crcByte r

theorem xor32 {a b : Nat} (ha : a < 4294967296) (hb : b < 4294967296) : a ^^^ b < 4294967296 := Nat.xor_lt_two_pow (n := 32) ha hb
theorem crcBit_lt {r : Nat} (h : r < 4294967296) : crcBit r < 4294967296 := by
  unfold crcBit
  split
  · exact xor32 (by omega) (by omega)
  · omega
theorem crcBits_lt (k : Nat) {r : Nat} (h : r < 4294967296) : crcBits k r < 4294967296 := by
  induction k with
  | zero => exact h
  | succ k ih => exact crcBit_lt ih
theorem byte_lt (c : UInt8) : c.toNat < 256 := c.toNat_lt
theorem crcByte_lt {r : Nat} (c : UInt8) (h : r < 4294967296) : crcByte r c < 4294967296 :=
  crcBits_lt 8 (xor32 h (Nat.lt_trans (byte_lt c) (by omega)))
theorem crc_lt : ∀ (bs : List UInt8) {r : Nat}, r < 4294967296 → crc r bs < 4294967296
  | [], _, h => h
  | c :: bs, _, h => crc_lt bs (crcByte_lt c h)
theorem crc_append (r : Nat) (a b : List UInt8) : crc r (a ++ b) = crc (crc r a) b := List.foldl_append ..
theorem crc_take (r : Nat) (bs : List UInt8) (k : Nat) (c : UInt8) (h : bs[k]? = some c) : crc r (bs.take (k + 1)) = crcByte (crc r (bs.take k)) c := by
  rw [List.take_add_one, h]; simp [crc]

/-! ### Bytes in memory -/
def bv (bs : List UInt8) : List Value := bs.map fun c => .int .u8 (c.toNat : Int)
theorem bv_length (bs : List UInt8) : (bv bs).length = bs.length := by simp [bv]
theorem bv_at (bs : List UInt8) (k : Nat) (h : k < bs.length) : (bv bs)[k]? = some (.int .u8 (bs[k].toNat : Int)) := by simp [bv, h]
theorem bv_append (a b : List UInt8) : bv (a ++ b) = bv a ++ bv b := by simp [bv]
theorem bv_take (a : List UInt8) (k : Nat) : (bv a).take k = bv (a.take k) := by simp [bv, List.map_take]
theorem bv_drop (a : List UInt8) (k : Nat) : (bv a).drop k = bv (a.drop k) := by simp [bv, List.map_drop]
theorem bv_one (a : List UInt8) : ∀ u ∈ bv a, u.oneCell' = true := by
  intro u hu
  obtain ⟨c, _, rfl⟩ := List.mem_map.1 hu
  rfl

/-- the slice value '.slice A n c' (whatever c) holds the bytes bs, below block B -/
structure Bytes (w : World) (B : Nat) (A : Option Addr) (n : Nat) (bs : List UInt8) : Prop where
  len : bs.length = n
  at_ : 0 < n → ∃ b off, A = some ⟨b, off, none⟩ ∧ b < B ∧ ∀ (j : Nat) (h : j < bs.length), w.cell? ⟨b, off + j, none⟩ = some (.int .u8 (bs[j].toNat : Int))

section
variable {w w' : World} {B B' n : Nat} {A : Option Addr} {bs : List UInt8}
theorem Bytes.nil (w : World) (B : Nat) (A : Option Addr) : Bytes w B A 0 [] := ⟨rfl, fun h => absurd h (by omega)⟩
theorem Bytes.cell {k : Nat} (h : Bytes w B A n bs) (hk : k < n) : ∃ b off, A = some ⟨b, off, none⟩ ∧ b < B ∧ w.cell? ⟨b, off + k, none⟩ = some (.int .u8 ((bs[k]'(by rw [h.len]; exact hk)).toNat : Int)) := by
  obtain ⟨b, off, e, hb, hc⟩ := h.at_ (by omega)
  exact ⟨b, off, e, hb, hc k (by rw [h.len]; exact hk)⟩
theorem Bytes.keep (h : Bytes w B A n bs) (hk : ∀ p : Addr, p.block < B → w'.cell? p = w.cell? p) : Bytes w' B A n bs :=
  ⟨h.len, fun hn => by
    obtain ⟨b, off, e, hb, hc⟩ := h.at_ hn
    exact ⟨b, off, e, hb, fun j hj => (hk _ hb).trans (hc j hj)⟩⟩
theorem Bytes.more (h : Bytes w B A n bs) (hB : B ≤ B') : Bytes w B' A n bs :=
  ⟨h.len, fun hn => by
    obtain ⟨b, off, e, hb, hc⟩ := h.at_ hn
    exact ⟨b, off, e, by omega, hc⟩⟩
theorem Bytes.below (h : Bytes w B A n bs) (hb : Below B w w') : Bytes w' B A n bs := h.keep fun _ hp => hb.cell hp
theorem Bytes.drew (h : Bytes w B A n bs) : Bytes w.drew B A n bs := h.keep fun _ _ => rfl
theorem Bytes.drewN (h : Bytes w B A n bs) (k : Nat) : Bytes (w.drewN k) B A n bs := h.keep fun _ _ => rfl
theorem Bytes.alloc (h : Bytes w B A n bs) (hB : B ≤ w.heap.size) (o : Obj) : Bytes (w.alloc o) B A n bs := h.keep fun p hp => World.cell?_alloc_lt w o p (by omega)
/-- 's[k:m]': the model keeps the address where nothing is left of the capacity -/
theorem Bytes.cut (h : Bytes w B A n bs) {k m : Nat} (hk : k ≤ m) (hm : m ≤ n) :
    Bytes w B (A.map (·.add k)) (m - k) ((bs.take m).drop k) := by
  refine ⟨by rw [List.length_drop, List.length_take, h.len]; omega, fun hn => ?_⟩
  obtain ⟨b, off, rfl, hb, hc⟩ := h.at_ (by omega)
  refine ⟨b, off + k, by simp [Addr.add], hb, fun j hj => ?_⟩
  have hl : k + j < bs.length := by simp at hj; omega
  rw [Nat.add_assoc, hc (k + j) hl]
  simp
end
end Go.Proofs.Ytfmjlkgbaanlhaa
