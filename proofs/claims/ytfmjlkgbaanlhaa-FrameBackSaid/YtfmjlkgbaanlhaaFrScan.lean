/-
  frame.Scan and the reference's Scan of at most 20000 bytes; two slices of slices of bytes are compared.
-/
import Derived.Test.YtfmjlkgbaanlhaaFrScanPlain
import Derived.Test.YtfmjlkgbaanlhaaFrLaw2
namespace Go.Proofs.Ytfmjlkgbaanlhaa
open Go.RowKit
set_option linter.unusedVariables false
set_option linter.unusedSimpArgs false

def ScanRel (w : World) (bs : List UInt8) (v i : Value) (wr : World) : Prop :=
  ∃ k l a, steps bs k = some (l, a) ∧ i = .int .i64 (a : Nat) ∧ OwnL wr w.heap.size v l ∧ Below w.heap.size w wr
def ScanPost (w : World) (bs : List UInt8) (e : Ending) (w' : World) : Prop :=
  ∃ A c l a, e = .returned (.tuple #[.slice A l.length c, .int .i64 (a : Nat)]) ∧ Scanned bs l a ∧ l.length ≤ c ∧ Lists w' w'.heap.size A l.length l ∧ Below w.heap.size w w'
theorem neq_zero {x : Int} (h : ¬ x = 0) : (x != 0) = true := by simpa using h
theorem cell_lit1 (w : World) (u : Value) (e : TypeId) : ∀ j x, [u][j]? = some x → (w.alloc (.cells #[u] e)).cell? ((⟨w.heap.size, 0, none⟩ : Addr).add j) = some x := by
  intro j x hx
  obtain rfl : j = 0 := by
    rcases j with _ | j
    · rfl
    · simp at hx
  simp at hx
  subst hx
  simp [Addr.add]

set_option maxHeartbeats 400000 in
theorem Scan_any (A : Option Addr) (n c : Nat) (bs : List UInt8) (w : World) (h : Bytes w w.heap.size A n bs) (hn : n ≤ 1000000) (hc : n ≤ c) :
    Calls Try.prog 19 #[.slice A n c] w (ScanPost w bs) := by
  obtain ⟨i0, hi0, hz0, hz1, hz2⟩ := info_parts info_bytes
  have hlen := Lib.hid h.len
  go_enter Try.func19, Try.ntmps19
  go_wp2_with fail
  go_loopw [4, 5] (fun v i wr => ScanRel w bs v i wr) (fun _ i _ => n + 1 - (intOf i).toNat)
  case atStart => exact ⟨0, [], 0, rfl, rfl, OwnL.nil _ _, Below.refl _ _⟩
  case round =>
    obtain ⟨k, l, a, hst, rfl, hown, hbr⟩ := hrel
    have hle := steps_le bs k l a hst
    rw [hlen.out] at hle
    obtain ⟨ha, hka, hlk⟩ := hle
    have HLK := Lib.hid hlk
    have HST := Lib.hid hst
    have hok := nextF_ok bs a
    have hsu := steps_succ bs k l a hst
    have hen : (nextF bs a).2.2 ≠ 0 → Scanned bs l a := fun h => ⟨⟨k, hst⟩, h⟩
    have c1 := Next_any A n c bs (a : Int) wr ((h.below hbr).more hbr.size) (by omega) hc (by omega) (by omega)
    clear hst hlk
    generalize nextF bs (a : Int) = r at *
    obtain ⟨body, nx, er⟩ := r
    simp only at hok hsu hen
    have HOK := Lib.hid hok
    have HSU := Lib.hid hsu
    have HEN := Lib.hid hen
    have C1 := Lib.hid c1
    clear hok hsu hen c1
    go_wp2_with fail
    refine C1.out.mono ?_
    rintro e w1 ⟨A1, k1, rfl, hx1, hk1, hb1, hfr1⟩
    have hbw : Below w.heap.size w w1 := hbr.trans (hb1.mono hbr.size)
    by_cases he : er = 0
    · have t1 : (er != 0) = false := by simp [he]
      have hok := HOK.out he
      have hsu := HSU.out he
      have HE := Lib.hid he
      clear he
      obtain ⟨hnx, hlb⟩ := hok
      rw [hlen.out] at hlb
      subst hnx
      rw [Int.toNat_natCast] at hsu
      have HS2 := Lib.hid hsu
      clear hsu
      have hown1 := hown.below hb1
      have hvlt : ∀ g, u4.ownBlock = some g → g < wr.heap.size := by
        obtain ⟨vs, ho, _⟩ := hown
        exact fun g hg => (ho.lt g hg).2
      obtain ⟨vs, ho, h1, hce⟩ := hown1
      have hf : 0 < body.length → ∀ ad, A1 = some ad → w.heap.size ≤ ad.block ∧ u4.ownBlock ≠ some ad.block := fun _ ad e => ⟨Nat.le_trans hbr.size (hfr1 ad e), fun h2 => by
        have h3 := hvlt _ h2
        have h4 := hfr1 ad e
        omega⟩
      have hlv : vs.length = l.length := by have := ho.1; omega
      have HLV := Lib.hid hlv
      clear hlv hown hvlt hfr1
      go_wp2_with (at_builtin; refine wpList_append_own_at _ rfl (.tmp 20) (.tmp 22) 38 rfl w.heap.size 22 i0 _ 1 24 Try.underlying38 hi0 hz0 hz1 hz2 rfl (by omega) u4 l.length vs rfl (ho.alloc _) ⟨w1.heap.size, 0, none⟩ 1 1 [.slice A1 body.length k1] rfl rfl (cell_lit1 _ _ _) ?one ?c3 ?c4 ?c5 ?_)
      case one => intro u hu; obtain rfl := List.mem_singleton.1 hu; rfl
      case c3 => have := HLK.out; unfold maxLen; omega
      case c4 => have := HLK.out; omega
      case c5 => exact Nat.le_trans hbw.size (by simp)
      intro v2 w2 hown2 hg2 _ hat2
      have hsn : OwnL w2 w.heap.size v2 (l ++ [body]) := by
        refine OwnL.snoc (w := w1.alloc (.cells #[.slice A1 body.length k1] 22)) (v := u4) (c := k1) ?_ HLV.out h1 ((hx1.alloc (Nat.le_refl _) _).more (by simp)) hk1 hf hown2 hg2 (by simpa using hat2)
        intro j hj
        obtain ⟨A0, c0, e1, e2, e3, e4⟩ := hce j hj
        exact ⟨A0, c0, e1, e2, (e3.alloc (Nat.le_refl _) _).more (by simp), e4⟩
      have hb2 : Below w.heap.size w w2 := (hbw.alloc hbw.size _).grown hg2 (Nat.le_trans hbw.size (by simp)) (fun g hg => (ho.lt g hg).1)
      clear hown2 hg2 hat2 hce ho h1 hx1
      go_wp2_with fail
      go_roundw
      case rel => exact ⟨k + 1, l ++ [body], a + 8 + body.length, HS2.out, rfl, hsn, hb2⟩
      case measure => simp [intOf]; omega
    · have t1 := neq_zero he
      have hen := HEN.out he
      have HE := Lib.hid he
      clear he
      have hown1 := hown.below hb1
      obtain ⟨A2, c2, hv, hlc, hli⟩ := hown1.form
      subst hv
      clear hown hown1
      go_wp2_with fail
      go_ret2
      exact ⟨A2, c2, l, a, rfl, hen, hlc, hli, hbw⟩

set_option maxHeartbeats 400000 in
theorem refScan_any (A : Option Addr) (n c : Nat) (bs : List UInt8) (w : World) (h : Bytes w w.heap.size A n bs) (hn : n ≤ 1000000) (hc : n ≤ c) :
    Calls Try.prog 20 #[.slice A n c] w (ScanPost w bs) := by
  obtain ⟨i0, hi0, hz0, hz1, hz2⟩ := info_parts info_bytes
  have hlen := Lib.hid h.len
  go_enter Try.func20, Try.ntmps20
  go_wp2_with fail
  go_loopw [4, 5] (fun v i wr => ScanRel w bs v i wr) (fun _ i _ => n + 1 - (intOf i).toNat)
  case atStart => exact ⟨0, [], 0, rfl, rfl, OwnL.nil _ _, Below.refl _ _⟩
  case round =>
    obtain ⟨k, l, a, hst, rfl, hown, hbr⟩ := hrel
    have hle := steps_le bs k l a hst
    rw [hlen.out] at hle
    obtain ⟨ha, hka, hlk⟩ := hle
    have HLK := Lib.hid hlk
    have HST := Lib.hid hst
    have hok := nextF_ok bs a
    have hsu := steps_succ bs k l a hst
    have hen : (nextF bs a).2.2 ≠ 0 → Scanned bs l a := fun h => ⟨⟨k, hst⟩, h⟩
    have c1 := refNext_any A n c bs (a : Int) wr ((h.below hbr).more hbr.size) (by omega) hc (by omega) (by omega)
    clear hst hlk
    generalize nextF bs (a : Int) = r at *
    obtain ⟨body, nx, er⟩ := r
    simp only at hok hsu hen
    have HOK := Lib.hid hok
    have HSU := Lib.hid hsu
    have HEN := Lib.hid hen
    have C1 := Lib.hid c1
    clear hok hsu hen c1
    go_wp2_with fail
    refine C1.out.mono ?_
    rintro e w1 ⟨A1, k1, rfl, hx1, hk1, hb1, hfr1⟩
    have hbw : Below w.heap.size w w1 := hbr.trans (hb1.mono hbr.size)
    by_cases he : er = 0
    · have t1 : (er != 0) = false := by simp [he]
      have hok := HOK.out he
      have hsu := HSU.out he
      have HE := Lib.hid he
      clear he
      obtain ⟨hnx, hlb⟩ := hok
      rw [hlen.out] at hlb
      subst hnx
      rw [Int.toNat_natCast] at hsu
      have HS2 := Lib.hid hsu
      clear hsu
      have hown1 := hown.below hb1
      have hvlt : ∀ g, u4.ownBlock = some g → g < wr.heap.size := by
        obtain ⟨vs, ho, _⟩ := hown
        exact fun g hg => (ho.lt g hg).2
      obtain ⟨vs, ho, h1, hce⟩ := hown1
      have hf : 0 < body.length → ∀ ad, A1 = some ad → w.heap.size ≤ ad.block ∧ u4.ownBlock ≠ some ad.block := fun _ ad e => ⟨Nat.le_trans hbr.size (hfr1 ad e), fun h2 => by
        have h3 := hvlt _ h2
        have h4 := hfr1 ad e
        omega⟩
      have hlv : vs.length = l.length := by have := ho.1; omega
      have HLV := Lib.hid hlv
      clear hlv hown hvlt hfr1
      go_wp2_with (at_builtin; refine wpList_append_own_at _ rfl (.tmp 20) (.tmp 22) 38 rfl w.heap.size 22 i0 _ 1 24 Try.underlying38 hi0 hz0 hz1 hz2 rfl (by omega) u4 l.length vs rfl (ho.alloc _) ⟨w1.heap.size, 0, none⟩ 1 1 [.slice A1 body.length k1] rfl rfl (cell_lit1 _ _ _) ?one ?c3 ?c4 ?c5 ?_)
      case one => intro u hu; obtain rfl := List.mem_singleton.1 hu; rfl
      case c3 => have := HLK.out; unfold maxLen; omega
      case c4 => have := HLK.out; omega
      case c5 => exact Nat.le_trans hbw.size (by simp)
      intro v2 w2 hown2 hg2 _ hat2
      have hsn : OwnL w2 w.heap.size v2 (l ++ [body]) := by
        refine OwnL.snoc (w := w1.alloc (.cells #[.slice A1 body.length k1] 22)) (v := u4) (c := k1) ?_ HLV.out h1 ((hx1.alloc (Nat.le_refl _) _).more (by simp)) hk1 hf hown2 hg2 (by simpa using hat2)
        intro j hj
        obtain ⟨A0, c0, e1, e2, e3, e4⟩ := hce j hj
        exact ⟨A0, c0, e1, e2, (e3.alloc (Nat.le_refl _) _).more (by simp), e4⟩
      have hb2 : Below w.heap.size w w2 := (hbw.alloc hbw.size _).grown hg2 (Nat.le_trans hbw.size (by simp)) (fun g hg => (ho.lt g hg).1)
      clear hown2 hg2 hat2 hce ho h1 hx1
      go_wp2_with fail
      go_roundw
      case rel => exact ⟨k + 1, l ++ [body], a + 8 + body.length, HS2.out, rfl, hsn, hb2⟩
      case measure => simp [intOf]; omega
    · have t1 := neq_zero he
      have hen := HEN.out he
      have HE := Lib.hid he
      clear he
      have hown1 := hown.below hb1
      obtain ⟨A2, c2, hv, hlc, hli⟩ := hown1.form
      subst hv
      clear hown hown1
      go_wp2_with fail
      go_ret2
      exact ⟨A2, c2, l, a, rfl, hen, hlc, hli, hbw⟩

def ListsRel (w : World) (n : Nat) (l l2 : List (List UInt8)) (i : Value) (wr : World) : Prop :=
  ∃ k m : Nat, k ≤ n ∧ i = .int .i64 k ∧ wr = w.drewN m ∧ l.take k = l2.take k
theorem take_snoc (l : List (List UInt8)) (k : Nat) (h : k < l.length) : l.take (k + 1) = l.take k ++ [l[k]] := by
  rw [List.take_succ_eq_append_getElem h]

set_option maxHeartbeats 400000 in
theorem lists_any (A A2 : Option Addr) (n c n2 c2 B : Nat) (l l2 : List (List UInt8)) (w : World) (h : Lists w B A n l) (h2 : Lists w B A2 n2 l2) (hn : n ≤ 9223372036854775807) (hn2 : n2 ≤ 9223372036854775807) :
    Calls Try.prog 21 #[.slice A n c, .slice A2 n2 c2] w fun e w' => e = .returned (.bool (decide (l = l2))) ∧ ∃ m, w' = w.drewN m := by
  by_cases hl : n = n2
  · subst hl
    have t0 : ((n : Int) != (n : Int)) = false := by simp
    have hl1 := Lib.hid h.len
    have hl2 := Lib.hid h2.len
    go_enter Try.func21, Try.ntmps21
    go_wp2_with fail
    go_loopw [13] (fun i wr => ListsRel w n l l2 i wr) (fun i _ => n - (intOf i).toNat)
    case atStart => exact ⟨0, 0, Nat.zero_le _, rfl, rfl, rfl⟩
    case round =>
      obtain ⟨k, m, hk, rfl, rfl, htk⟩ := hrel
      have HTK := Lib.hid htk
      clear htk
      by_cases hlt : k < n
      · obtain ⟨b, off, rfl, hb, hcell⟩ := h.at_ (by omega)
        obtain ⟨A1, c1, hc1, hlc1, hx1⟩ := hcell k (by rw [hl1.out]; exact hlt)
        obtain ⟨b', off', rfl, hb', hcell'⟩ := h2.at_ (by omega)
        obtain ⟨A2, c2, hc2, hlc2, hx2⟩ := hcell' k (by rw [hl2.out]; exact hlt)
        have hcv1 := fun q => convert_bytes A1 (l[k]'(by rw [hl1.out]; exact hlt)).length c1 B _ (w.drewN q) (hx1.drewN q)
        have hcv2 := fun q => convert_bytes A2 (l2[k]'(by rw [hl2.out]; exact hlt)).length c2 B _ (w.drewN q) (hx2.drewN q)
        have hs1 := Lib.hid (take_snoc l k (by rw [hl1.out]; exact hlt))
        have hs2 := Lib.hid (take_snoc l2 k (by rw [hl2.out]; exact hlt))
        have hdiff : l[k]'(by rw [hl1.out]; exact hlt) ≠ l2[k]'(by rw [hl2.out]; exact hlt) → decide (l = l2) = false := fun hd => decide_eq_false (fun e => hd (by simp only [e]))
        have HD := Lib.hid hdiff
        clear hcell hcell' hx1 hx2 hlc1 hlc2 hdiff
        generalize l[k]'(by rw [hl1.out]; exact hlt) = x at *
        generalize l2[k]'(by rw [hl2.out]; exact hlt) = y at *
        have i1 : (k : Int) < (n : Int) := by omega
        have i0 : (0 : Int) ≤ (k : Int) := by omega
        by_cases hxy : x = y
        · have t1 : (x == y) = true := by simp [hxy]
          have t2 : (x != y) = false := by simp [hxy]
          have HXY := Lib.hid hxy
          clear hxy
          go_wp2_with fail
          go_quiet (fail)
          go_wp2_with fail
          go_roundw
          case rel => exact ⟨k + 1, _, by omega, by go_num, rfl, by rw [hs1.out, hs2.out, HTK.out, HXY.out]⟩
          case measure => simp [intOf]; omega
        · have t1 : (x == y) = false := by simpa using hxy
          have t2 : (x != y) = true := by simpa using hxy
          have HE0 := Lib.hid (HD.out hxy)
          have HXY := Lib.hid hxy
          clear hxy
          go_wp2_with fail
          go_quiet (fail)
          go_wp2_with fail
          go_ret
          exact ⟨by rw [HE0.out]; rfl, _, World.drewN_drewN _ _ _⟩
      · have e1 : l = l2 := by
          have := HTK.out
          rwa [List.take_of_length_le (by rw [hl1.out]; omega), List.take_of_length_le (by rw [hl2.out]; omega)] at this
        have e0 : decide (l = l2) = true := decide_eq_true e1
        have HE0 := Lib.hid e0
        clear e1 e0
        go_wp2_with fail
        go_ret
        exact ⟨by rw [HE0.out]; rfl, _, rfl⟩
  · have hne : l ≠ l2 := fun e => hl (by rw [← h.len, ← h2.len, e])
    have e0 : decide (l = l2) = false := decide_eq_false hne
    rw [e0]
    have t1 : ((n : Int) != (n2 : Int)) = true := by simp; omega
    have H := Lib.hid hl
    clear hl
    go_enter Try.func21, Try.ntmps21
    go_wp2_with fail
    go_ret
    exact ⟨rfl, 0, rfl⟩
end Go.Proofs.Ytfmjlkgbaanlhaa
