/-
  The law FrameBack's helpers: 'large' and 'appended'.
-/
import Derived.Test.YtfmjlkgbaanlhaaFrScan
import Derived.Test.YtfmjlkgbaanlhaaFrBackPlain
namespace Go.Proofs.Ytfmjlkgbaanlhaa
open Go.RowKit
set_option linter.unusedVariables false
set_option linter.unusedSimpArgs false

def sumLen : List (List UInt8) → Nat
  | [] => 0
  | b :: l => b.length + sumLen l
theorem sumLen_append : ∀ l r : List (List UInt8), sumLen (l ++ r) = sumLen l + sumLen r
  | [], r => by simp [sumLen]
  | b :: l, r => by rw [List.cons_append, sumLen, sumLen, sumLen_append l r]; omega
theorem sumLen_snoc (l : List (List UInt8)) (k : Nat) (h : k < l.length) : sumLen (l.take (k + 1)) = sumLen (l.take k) + l[k].length := by
  rw [List.take_succ_eq_append_getElem h, sumLen_append]; simp [sumLen]
theorem sumLen_le (l : List (List UInt8)) (k : Nat) : sumLen (l.take k) ≤ sumLen l := by
  have h := sumLen_append (l.take k) (l.drop k)
  rw [List.take_append_drop] at h
  omega
theorem mem_sumLen : ∀ {l : List (List UInt8)} {b : List UInt8}, b ∈ l → b.length ≤ sumLen l
  | x :: l, b, h => by
    rcases List.mem_cons.1 h with e | e
    · subst e; rw [sumLen]; omega
    · have := mem_sumLen e; rw [sumLen]; omega
theorem endF_sum (l : List (List UInt8)) : ∀ k, k ≤ l.length → endF l k = 8 * k + sumLen (l.take k)
  | 0, _ => rfl
  | k + 1, h => by rw [endF_succ l k (by omega), endF_sum l k (by omega), sumLen_snoc l k (by omega)]; omega
theorem dec_large (a b : Nat) : decide ((20000 : Int) < (a : Int) + (b : Int)) = decide (20000 < a + b) := decide_eq_decide.2 (by omega)
def largeB (l : List (List UInt8)) : Bool := decide (20000 < l.length + sumLen l)
def LargeRel (n : Nat) (l : List (List UInt8)) (s i : Value) : Prop := ∃ k : Nat, k ≤ n ∧ i = .int .i64 k ∧ s = .int .i64 ((n + sumLen (l.take k) : Nat) : Int) ∧ (0 < k → n + sumLen (l.take k) ≤ 20000)

set_option maxHeartbeats 400000 in
theorem large_any (A : Option Addr) (n c B : Nat) (l : List (List UInt8)) (w : World) (h : Lists w B A n l) (hn : n ≤ 140737488351232) (hin : ∀ b ∈ l, b.length ≤ 140737488351232) :
    Calls Try.prog 22 #[.slice A n c] w fun e w' => e = .returned (.bool (largeB l)) ∧ w = w' := by
  have hl := Lib.hid h.len
  have HIN := Lib.hid hin
  clear hin
  go_enter Try.func22, Try.ntmps22
  go_wp2_with fail
  go_loop [3, 10] (fun s i => LargeRel n l s i) (fun _ i => n - (intOf i).toNat)
  case atStart => exact ⟨0, Nat.zero_le _, rfl, by simp [sumLen], fun h => absurd h (by omega)⟩
  case round =>
    obtain ⟨k, hk, rfl, rfl, hs⟩ := hrel
    have hsl : n + sumLen (l.take k) ≤ 140737488351232 := by
      rcases Nat.eq_zero_or_pos k with h0 | h0
      · subst h0; simpa [sumLen] using hn
      · have := hs h0; omega
    by_cases hlt : k < n
    · obtain ⟨b, off, rfl, hb, hcell⟩ := h.at_ (by omega)
      obtain ⟨A1, c1, hc1, hlc1, hx1⟩ := hcell k (by rw [hl.out]; exact hlt)
      have hle := HIN.out _ (List.getElem_mem (l := l) (n := k) (by rw [hl.out]; exact hlt))
      have HS := Lib.hid (sumLen_snoc l k (by rw [hl.out]; exact hlt))
      have HS2 := Lib.hid (sumLen_le l (k + 1))
      clear hcell hx1 hs hlc1
      generalize sumLen (l.take k) = s0 at *
      generalize (l[k]'(by rw [hl.out]; exact hlt)).length = x at *
      have i1 : (k : Int) < (n : Int) := by omega
      go_wp2_with fail
      · go_ret
        have hgt : 20000 < l.length + sumLen l := by have := HS.out; have := HS2.out; have := hl.out; omega
        exact ⟨by rw [largeB, decide_eq_true hgt]; rfl, rfl⟩
      · go_round
        case rel => exact ⟨k + 1, by omega, by go_num, by rw [HS.out]; congr 1; omega, fun _ => by rw [HS.out]; omega⟩
        case measure => simp [intOf]; omega
    · obtain rfl : k = n := by omega
      have HT := Lib.hid (List.take_of_length_le (l := l) (i := k) (by rw [hl.out]; omega))
      clear hs
      go_wp2_with fail
      go_ret
      refine ⟨?_, rfl⟩
      rw [HT.out, largeB, hl.out, ← dec_large]
      rfl

/-- the offsets after the first k frames -/
def endsV (l : List (List UInt8)) (k : Nat) : List Value := (List.range k).map fun i => .int .i64 ((endF l (i + 1) : Nat) : Int)
theorem endsV_snoc (l : List (List UInt8)) (k : Nat) : endsV l (k + 1) = endsV l k ++ [.int .i64 ((endF l (k + 1) : Nat) : Int)] := by simp [endsV, List.range_succ]
theorem info_int : (Try.prog.info? 3).map (fun i => (i.zero, i.size, i.bytes)) = some (some (.int .i64 0), 1, 8) := by kernel_rfl
def AppRel (w : World) (l : List (List UInt8)) (o v i : Value) (wr : World) : Prop :=
  ∃ k A c, k ≤ l.length ∧ i = .int .i64 ((k : Nat) : Int) ∧ o = .slice A (endF l k) c ∧ endF l k ≤ c ∧ Bytes wr wr.heap.size A (endF l k) (framesF (l.take k)) ∧ wr.ownsRow w.heap.size 3 1 v k (endsV l k) ∧ Below w.heap.size w wr
def AppPost (w : World) (l : List (List UInt8)) (e : Ending) (w' : World) : Prop :=
  ∃ A c v, e = .returned (.tuple #[.slice A (framesF l).length c, v, .bool true]) ∧ (framesF l).length ≤ c ∧ Bytes w' w'.heap.size A (framesF l).length (framesF l) ∧ w'.ownsRow w.heap.size 3 1 v l.length (endsV l l.length) ∧ Below w.heap.size w w'
theorem owns_below {w w' : World} {base : Nat} {e : TypeId} {v : Value} {n : Nat} {xs : List Value} (h : w.ownsRow base e 1 v n xs) (hb : Below w.heap.size w w') : w'.ownsRow base e 1 v n xs := by
  have hg : w.grownBy w' none := ⟨hb.os, hb.tape, hb.output, hb.size, fun i hi _ => hb.block i hi⟩
  refine World.ownsRow.kept h hg ?_
  rcases hv : v.ownBlock with _ | x
  · exact .inl rfl
  · exact .inr (by simp)

set_option maxHeartbeats 400000 in
theorem appended_any (A : Option Addr) (n c : Nat) (l : List (List UInt8)) (w : World) (h : Lists w w.heap.size A n l) (hlar : l.length + sumLen l ≤ 20000) :
    Calls Try.prog 23 #[.slice A n c] w (AppPost w l) := by
  obtain ⟨i0, hi0, hz0, hz1, hz2⟩ := info_parts info_int
  have hl := Lib.hid h.len
  have hn : n ≤ 20000 := by have := h.len; omega
  have HLA := Lib.hid hlar
  clear hlar
  go_enter Try.func23, Try.ntmps23
  go_wp2_with fail
  go_loopw [5, 6, 13] (fun o v i wr => AppRel w l o v i wr) (fun _ _ i _ => n - (intOf i).toNat)
  case atStart => exact ⟨0, none, 0, Nat.zero_le _, rfl, rfl, Nat.le_refl _, Bytes.nil _ _ _, ⟨rfl, .inl ⟨rfl, rfl⟩⟩, Below.refl _ _⟩
  case round =>
    obtain ⟨k, Ao, co, hk, rfl, rfl, hco, hxo, hown, hbr⟩ := hrel
    rw [hl.out] at hk
    have hE : endF l k ≤ 180000 := by
      have h1 := endF_sum l k (by rw [hl.out]; exact hk)
      have h2 := sumLen_le l k
      have h3 := HLA.out
      have h4 := hl.out
      omega
    by_cases hlt : k < n
    · obtain ⟨b, off, rfl, hb, hcell⟩ := (h.below hbr).at_ (by omega)
      obtain ⟨A1, c1, hc1, hlc1, hx1⟩ := hcell k (by rw [hl.out]; exact hlt)
      have hm1 : (l[k]'(by rw [hl.out]; exact hlt)).length ≤ 20000 := by
        have h1 := mem_sumLen (List.getElem_mem (l := l) (n := k) (by rw [hl.out]; exact hlt))
        have h2 := HLA.out
        omega
      have HES := Lib.hid (endF_succ l k (by rw [hl.out]; exact hlt))
      have HFS := Lib.hid (show framesF (l.take (k + 1)) = framesF (l.take k) ++ frameF (l[k]'(by rw [hl.out]; exact hlt)) from by rw [List.take_succ_eq_append_getElem (by rw [hl.out]; exact hlt), framesF_snoc])
      have HEV := Lib.hid (endsV_snoc l k)
      replace hx1 := hx1.more hbr.size
      clear hcell
      generalize l[k]'(by rw [hl.out]; exact hlt) = body at *
      have i1 : (k : Int) < (n : Int) := by omega
      generalize hek : endF l k = E at *
      have HEK := Lib.hid hek
      clear hek
      go_wp2_with fail
      refine (Append_any Ao A1 E co body.length c1 (framesF (l.take k)) body wr hxo hx1 (by omega) (by omega)).mono ?_
      rintro e w1 ⟨rfl, hb1, hB1⟩
      have hown1 := owns_below hown hB1
      have hbw : Below w.heap.size w w1 := hbr.trans (hB1.mono hbr.size)
      have hvlt : ∀ g, u6.ownBlock = some g → g < wr.heap.size := fun g hg => (hown.lt g hg).2
      have t1 : E + 8 + body.length = endF l (k + 1) := by rw [HES.out]; omega
      have HT1 := Lib.hid t1
      clear t1 hx1 hxo hown
      go_wp2_with (at_builtin; refine wpList_append_own_at _ rfl (.tmp 26) (.tmp 29) 43 rfl w.heap.size 3 i0 _ 1 8 Try.underlying43 hi0 hz0 hz1 hz2 rfl (by omega) u6 k (endsV l k) rfl (hown1.alloc _) ⟨w1.heap.size, 0, none⟩ 1 1 [.int .i64 ((E + 8 + body.length : Nat) : Int)] rfl rfl (cell_lit1 _ _ _) ?one ?c3 ?c4 ?c5 ?_)
      case one => intro u hu; obtain rfl := List.mem_singleton.1 hu; rfl
      case c3 => unfold maxLen; omega
      case c4 => omega
      case c5 => exact Nat.le_trans hbw.size (by simp)
      intro v2 w2 hown2 hg2 _ hat2
      have hown3 : w2.ownsRow w.heap.size 3 1 v2 (k + 1) (endsV l (k + 1)) := by
        rw [HEV.out, ← HT1.out]
        have e : ((E + 8 + body.length : Nat) : Int) = (E : Int) + 8 + (body.length : Int) := by omega
        rw [e]
        exact hown2
      have hb2 : Below w.heap.size w w2 := (hbw.alloc hbw.size _).grown hg2 (Nat.le_trans hbw.size (by simp)) (fun g hg => (hown1.lt g hg).1)
      have hlt1 : wr.heap.size < w1.heap.size := hb1.lt
      have hBB : BB w2 wr.heap.size (framesF (l.take k) ++ frameF body) := (hg2.block _ (by simp; omega) (fun e => by have := hvlt _ e.symm; omega)).trans (hb1.alloc _)
      have hxn := hBB.bytes (B := w2.heap.size) hBB.lt
      rw [← HFS.out, show (framesF (l.take (k + 1))).length = endF l (k + 1) from rfl] at hxn
      clear hown2 hg2 hat2 hown1 hb1 hB1 hBB hvlt
      go_wp2_with fail
      go_roundw
      case rel => exact ⟨k + 1, some ⟨wr.heap.size, 0, none⟩, E + 8 + body.length, by rw [hl.out]; omega, by go_num, by rw [← HT1.out], by rw [← HT1.out]; exact Nat.le_refl _, hxn, hown3, hb2⟩
      case measure => simp [intOf]; omega
    · obtain rfl : k = n := by omega
      have HT := Lib.hid (List.take_of_length_le (l := l) (i := k) (by rw [hl.out]; omega))
      go_wp2_with fail
      go_ret3
      have e1 : endF l k = (framesF l).length := by rw [endF, HT.out]
      rw [HT.out, e1] at hxo
      rw [e1] at hco
      refine ⟨Ao, co, u6, by rw [← e1]; rfl, hco, hxo, by rw [hl.out]; exact hown, hbr⟩
end Go.Proofs.Ytfmjlkgbaanlhaa
