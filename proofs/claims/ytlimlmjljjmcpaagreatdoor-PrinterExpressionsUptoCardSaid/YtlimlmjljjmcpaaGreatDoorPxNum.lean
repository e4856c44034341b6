/-
  Numbers and texts between quotes as the reference writes them; a value's literal: the reference's.
-/
import Derived.Test.YtlimlmjljjmcpaaGreatDoorPxV
namespace Go.Proofs.YtlimlmjljjmcpaaGreatDoor.Px
open Go Go.RowKit Go.Proofs.YtlimlmjljjmcpaaGreatDoor.Ps
set_option linter.unusedVariables false
set_option linter.unusedSimpArgs false
def NumRel (N : Nat) (n s : Value) : Prop := ∃ (k : Nat) (t : S), n = .int .i64 (k : Int) ∧ s = .string ⟨t.toArray⟩ ∧ Lib.decDigits N = Lib.decDigits k ++ t
theorem dig_ext : ∀ d : Nat, d < 10 → (ByteArray.mk #[48, 49, 50, 51, 52, 53, 54, 55, 56, 57]).extract d (d + 1) = ⟨#[UInt8.ofNat (48 + d)]⟩ := by decide +kernel
theorem dec_small {k : Nat} (h : k < 10) : Lib.decDigits k = [UInt8.ofNat (48 + k)] := by rw [Lib.decDigits, dif_pos h]
theorem dec_big {k : Nat} (h : ¬ k < 10) : Lib.decDigits k = Lib.decDigits (k / 10) ++ [UInt8.ofNat (48 + k % 10)] := by rw [Lib.decDigits, dif_neg h]
theorem dig_cat (d : Nat) (hd : d < 10) (t : S) : (ByteArray.mk #[48, 49, 50, 51, 52, 53, 54, 55, 56, 57]).extract d (d + 1) ++ ByteArray.mk t.toArray = ⟨(UInt8.ofNat (48 + d) :: t).toArray⟩ := by
  rw [dig_ext d hd]
  apply bytes_ext
  simp [ByteArray.data_append]
set_option maxRecDepth 100000 in
set_option maxHeartbeats 4000000 in
theorem num_call (N : Nat) (hN : N ≤ 1125899906842624) (w : World) : Calls Tryz.prog 243 #[.int .i64 (N : Int)] w (Ret w (.string ⟨(Lib.decDigits N).toArray⟩)) := by
  have hlen : ∀ (k : Nat) (t : S), Lib.decDigits N = Lib.decDigits k ++ t → t.length ≤ 17 := fun k t e => by
    have h1 := congrArg List.length e
    rw [List.length_append] at h1
    have := dec_len17 hN
    omega
  have HLN := Lib.hid hlen
  clear hlen
  go_enter Tryz.func243, Tryz.ntmps243
  go_wp2_with fail
  go_loop [0, 3] (fun n s => ∃ (k : Nat), k ≤ N ∧ n = .int .i64 (k : Int) ∧ NumRel N n s) (fun n _ => (intOf n).toNat)
  case atStart => exact ⟨N, Nat.le_refl _, rfl, N, [], rfl, rfl, by simp⟩
  case round =>
    obtain ⟨k, hk, rfl, k', t, hkk, rfl, he⟩ := hrel
    obtain rfl : k' = k := by injection hkk with _ h; omega
    have ht := HLN.out _ _ he
    have HEQ := Lib.hid he
    clear hkk he
    by_cases h9 : k' < 10
    · have e9 : ¬ (9 : Int) < (k' : Int) := by omega
      have e0 : (0 : Int) ≤ (k' : Int) := by omega
      have e1 : (k' : Int) ≤ 9 := by omega
      go_wp2_with fail
      go_ret
      exact ⟨congrArg (fun z => Ending.returned (.string z)) (by rw [dig_cat k' h9, HEQ.out, dec_small h9]; rfl), Below.refl _ _⟩
    · have e9 : (9 : Int) < (k' : Int) := by omega
      go_wp2_with fail
      refine ⟨⟨k' / 10, by omega, congrArg (fun z => Value.int .i64 z) (by omega), k' / 10, UInt8.ofNat (48 + k' % 10) :: t, congrArg (fun z => Value.int .i64 z) (by omega), congrArg Value.string (dig_cat (k' % 10) (by omega) t), ?_⟩, ?_⟩
      · rw [HEQ.out, dec_big h9, List.append_assoc]
        rfl
      · simp [intOf]
        omega
theorem cat_mk (x y : S) : ByteArray.mk x.toArray ++ ByteArray.mk y.toArray = ⟨(x ++ y).toArray⟩ := by
  apply bytes_ext
  simp [ByteArray.data_append]
theorem ext_one {s : ByteArray} {k : Nat} (h : k < s.size) : s.extract k (k + 1) = ⟨[s[k]].toArray⟩ := by
  apply bytes_ext
  rw [ByteArray.data_extract, Array.toList_extract]
  have h' : k < s.data.toList.length := by simpa using h
  simp only [List.extract_eq_take_drop]
  rw [show k + 1 - k = 1 by omega, List.drop_eq_getElem_cons h']
  rfl
theorem takeS (s : ByteArray) (k : Nat) (h : k < s.size) : s.data.toList.take (k + 1) = s.data.toList.take k ++ [s[k]] := by
  rw [List.take_succ_eq_append_getElem (by simpa using h)]; rfl
set_option maxRecDepth 100000 in
set_option maxHeartbeats 4000000 in
theorem number_neg (m : Nat) (hm : m ≤ 1125899906842624) (h0 : 1 ≤ m) (w : World) : Calls Tryz.prog 151 #[.int .i64 (-(m : Int))] w (Ret w (.string ⟨(45 :: Lib.decDigits m).toArray⟩)) := by
  by_cases h10 : m < 10
  · have c1 : -(m : Int) < 0 := by omega
    have c2 : (-10 : Int) < -(m : Int) := by omega
    have hl := dec_len17 hm
    have HC := Lib.hid (num_call m hm w)
    generalize Lib.decDigits m = D at HC hl
    have y2 : ¬ maxLen < 1 + D.length := by unfold maxLen; omega
    go_enter Tryz.func151, Tryz.ntmps151
    go_wp2_with fail
    refine HC.out.mono ?_
    rintro e w1 ⟨rfl, hb⟩
    go_wp2_with fail
    go_ret
    exact ⟨congrArg (fun z => Ending.returned (.string z)) (cat_mk [45] D), hb⟩
  · have c1 : -(m : Int) < 0 := by omega
    have c2 : ¬ (-10 : Int) < -(m : Int) := by omega
    have hc := num_call (m / 10) (by omega) w
    rw [show ((m / 10 : Nat) : Int) = (m : Int) / 10 by omega] at hc
    have hc2 := fun w' => num_call (m % 10) (by omega) w'
    simp only [show ((m % 10 : Nat) : Int) = (m : Int) % 10 by omega] at hc2
    have HD : Hid (Lib.decDigits m = Lib.decDigits (m / 10) ++ Lib.decDigits (m % 10)) := Lib.hid (by rw [dec_big h10, dec_small (k := m % 10) (by omega)])
    have hl := dec_len17 (n := m / 10) (by omega)
    have hl2 := dec_len17 (n := m % 10) (by omega)
    have HC := Lib.hid hc
    have HC2 := Lib.hid hc2
    clear hc hc2
    generalize Lib.decDigits (m / 10) = D at HC hl HD
    generalize Lib.decDigits (m % 10) = D2 at HC2 hl2 HD
    have y2 : ¬ maxLen < 1 + D.length := by unfold maxLen; omega
    have y3 : ¬ maxLen < 1 + D.length + D2.length := by unfold maxLen; omega
    go_enter Tryz.func151, Tryz.ntmps151
    go_wp2_with fail
    refine HC.out.mono ?_
    rintro e w1 ⟨rfl, hb⟩
    have HB := Lib.hid hb
    clear hb
    go_wp2_with fail
    refine (HC2.out w1).mono ?_
    rintro e w2 ⟨rfl, hb2⟩
    have HB2 := Lib.hid (HB.out.trans (hb2.mono HB.out.size))
    clear hb2
    go_wp2_with fail
    go_ret
    exact ⟨congrArg (fun z => Ending.returned (.string z)) (by rw [HD.out]; exact (congrArg (· ++ _) (cat_mk [45] D)).trans (cat_mk (45 :: D) D2)), HB2.out⟩
set_option maxRecDepth 100000 in
set_option maxHeartbeats 4000000 in
theorem number_at (n : Int) (w : World) (h0 : -maxN ≤ n) (h1 : n ≤ maxN) : Calls Tryz.prog 151 #[.int .i64 n] w (Ret w (.string ⟨(itoaL n).toArray⟩)) := by
  unfold maxN at h0 h1
  by_cases hn : n < 0
  · obtain ⟨m, hm⟩ : ∃ m : Nat, n = -(m : Int) := ⟨n.natAbs, by omega⟩
    subst hm
    have e : itoaL (-(m : Int)) = 45 :: Lib.decDigits m := by
      unfold itoaL Lib.itoa
      rw [if_pos hn]
      simp
    rw [e]
    exact number_neg m (by omega) (by omega) w
  · obtain ⟨m, rfl⟩ := Int.eq_ofNat_of_zero_le (by omega : 0 ≤ n)
    have e : itoaL (m : Int) = Lib.decDigits m := by
      unfold itoaL Lib.itoa
      rw [if_neg hn]
      rfl
    have c1 : ¬ (m : Int) < 0 := hn
    have HC := Lib.hid (num_call m (by omega) w)
    rw [e]
    generalize Lib.decDigits m = D at HC
    go_enter Tryz.func151, Tryz.ntmps151
    go_wp2_with fail
    refine HC.out.mono ?_
    rintro e w1 ⟨rfl, hb⟩
    go_wp2_with fail
    go_ret
    exact ⟨rfl, hb⟩
theorem quote_snoc (l : S) (c : UInt8) : quoteBody (l ++ [c]) = quoteBody l ++ quoteC c := by simp [quoteBody]
def QuRel (s : ByteArray) (v i : Value) : Prop := ∃ k : Nat, k ≤ s.size ∧ i = .int .i64 k ∧ v = .string ⟨(39 :: quoteBody (s.data.toList.take k)).toArray⟩
set_option maxRecDepth 100000 in
set_option maxHeartbeats 4000000 in
theorem rquote_any (s : ByteArray) (w : World) (hs : s.size ≤ 1000) : Calls Tryz.prog 152 #[.string s] w (Ret w (.string ⟨(quoteL s.data.toList).toArray⟩)) := by
  go_enter Tryz.func152, Tryz.ntmps152
  go_wp2_with fail
  go_loop [3, 4] (fun v i => QuRel s v i) (fun _ i => s.size - (intOf i).toNat)
  case atStart => exact ⟨0, Nat.zero_le _, rfl, rfl⟩
  case round =>
    obtain ⟨k, hk, rfl, rfl⟩ := hrel
    have hql := quote_len (s.data.toList.take k)
    have hq2 : (quoteBody (s.data.toList.take k)).length ≤ 2000 := by
      have : (s.data.toList.take k).length ≤ s.size := by rw [List.length_take, size_list]; omega
      omega
    clear hql
    by_cases hlt : k < s.size
    · have HS := Lib.hid (show quoteBody (s.data.toList.take (k + 1)) = quoteBody (s.data.toList.take k) ++ quoteC s[k] by rw [takeS s k hlt, quote_snoc])
      have HX := Lib.hid (ext_one hlt)
      generalize quoteBody (s.data.toList.take k) = y at HS hq2
      by_cases hc : s[k] = 39
      · have hc2 : (s[k].toNat : Int) = 39 := by rw [hc]; rfl
        have HC := Lib.hid hc
        clear hc
        go_wp2_with fail
        refine ⟨⟨k + 1, by omega, by go_num, congrArg Value.string ?_⟩, by simp [intOf]; omega⟩
        rw [HS.out, HX.out, HC.out]
        exact (congrArg (· ++ _) (cat_mk (39 :: y) [39])).trans ((cat_mk _ [39]).trans (by simp [quoteC]))
      · have hc2 : ¬ (s[k].toNat : Int) = 39 := fun e => hc (UInt8.toNat_inj.1 (by show s[k].toNat = 39; omega))
        have HC := Lib.hid hc
        clear hc
        go_wp2_with fail
        refine ⟨⟨k + 1, by omega, by go_num, congrArg Value.string ?_⟩, by simp [intOf]; omega⟩
        rw [HS.out, HX.out]
        refine (cat_mk (39 :: y) [s[k]]).trans ?_
        have e : quoteC s[k] = [s[k]] := by unfold quoteC; rw [if_neg HC.out]
        rw [e]
        rfl
    · obtain rfl : k = s.size := by omega
      have HT : Hid (s.data.toList.take s.size = s.data.toList) := Lib.hid (List.take_of_length_le (by simp))
      go_wp2_with fail
      go_ret
      exact ⟨congrArg (fun z => Ending.returned (.string z)) (by rw [HT.out]; exact cat_mk (39 :: quoteBody s.data.toList) [39]), Below.refl _ _⟩
theorem rquote_at (x : S) (w : World) (hx : x.length ≤ 1000) : Calls Tryz.prog 152 #[.string ⟨x.toArray⟩] w (Ret w (.string ⟨(quoteL x).toArray⟩)) := by
  have := rquote_any ⟨x.toArray⟩ w (by rw [mkS]; exact hx)
  rwa [mkL] at this
set_option maxRecDepth 100000 in
set_option maxHeartbeats 8000000 in
theorem rliteral_call (vk vi : Int) (vs : S) (w : World) (hs : vs.length ≤ 140737488351232) : Calls Tryz.prog 74 #[.agg #[.int .i64 vk, .int .i64 vi, .string ⟨vs.toArray⟩]] w (Ret w (.string ⟨(litL vk vi vs).toArray⟩)) := by
  have HS := Lib.hid hs
  have hem0 : (ByteArray.mk ([] : S).toArray).toList.isEmpty = true := mkE []
  clear hs
  go_enter Tryz.func74, Tryz.ntmps74
  go_upto_region 1 with (fail)
  refine name_alloc (K := Code.wp _ _ _ _) fun w1 hB hw1 hz1 => ?_
  have p0 := hB.cell 0 rfl
  have p1 := hB.cell 1 rfl
  have p2 := hB.cell 2 rfl
  have HW := Lib.hid hw1
  have HBk := Lib.hid hB
  clear hB hw1
  go_wp2_with fail
  refine (rvalid_call vk vi vs w1 HS.out).mono ?_
  rintro e w2 ⟨rfl, hw12⟩
  clear p0 p1 p2
  have hB2 := HBk.out.below hw12
  have hw2 := HW.out.trans (hw12.mono HW.out.size)
  clear hw12
  have p0 := hB2.cell 0 rfl
  have p1 := hB2.cell 1 rfl
  have p2 := hB2.cell 2 rfl
  have HW2 := Lib.hid hw2
  have HB2 := Lib.hid hB2
  clear hw2 hB2 HBk HW
  cases hv : validV vk vi vs with
  | false =>
    have HL := Lib.hid (lit_none hv)
    clear hv
    go_wp2_with fail
    go_ret
    exact ⟨by rw [HL.out]; rfl, HW2.out⟩
  | true =>
    by_cases k1 : vk = 1
    · subst k1
      obtain ⟨l1, l2, l3⟩ := lit_int hv
      have HL := Lib.hid l1
      have HM := Lib.hid (And.intro l2 l3)
      clear hv l1 l2 l3
      go_wp2_with fail
      refine (null_call w2).mono ?_
      rintro e w3 ⟨rfl, hw3⟩
      have HW3 := Lib.hid (HW2.out.trans (hw3.mono HW2.out.size))
      have HB3 := Lib.hid (HB2.out.below hw3)
      clear hw3 p0 p1 p2
      go_wp2_with fail
      refine (true_call w3).mono ?_
      rintro e w4 ⟨rfl, hw4⟩
      have HW4 := Lib.hid (HW3.out.trans (hw4.mono HW3.out.size))
      have HB4 := Lib.hid (HB3.out.below hw4)
      clear hw4
      go_wp2_with fail
      refine (false_call w4).mono ?_
      rintro e w5 ⟨rfl, hw5⟩
      have HW5 := Lib.hid (HW4.out.trans (hw5.mono HW4.out.size))
      have HB5 := HB4.out.below hw5
      clear hw5
      have p0 := HB5.cell 0 rfl
      have p1 := HB5.cell 1 rfl
      clear HB5
      go_wp2_with fail
      refine (Ret.at_ (number_at vi w5 HM.out.1 HM.out.2) HW5.out).mono ?_
      rintro e w6 ⟨rfl, hw6⟩
      go_wp2_with fail
      go_ret
      exact ⟨by rw [HL.out]; rfl, hw6⟩
    · by_cases k2 : vk = 2
      · subst k2
        obtain ⟨l1, l2⟩ := lit_text hv
        have HL := Lib.hid l1
        have HR := Lib.hid fun w => rquote_at vs w (by omega)
        clear hv l1
        go_wp2_with fail
        refine (null_call w2).mono ?_
        rintro e w3 ⟨rfl, hw3⟩
        have HW3 := Lib.hid (HW2.out.trans (hw3.mono HW2.out.size))
        have HB3 := Lib.hid (HB2.out.below hw3)
        clear hw3 p0 p1 p2
        go_wp2_with fail
        refine (true_call w3).mono ?_
        rintro e w4 ⟨rfl, hw4⟩
        have HW4 := Lib.hid (HW3.out.trans (hw4.mono HW3.out.size))
        have HB4 := Lib.hid (HB3.out.below hw4)
        clear hw4
        go_wp2_with fail
        refine (false_call w4).mono ?_
        rintro e w5 ⟨rfl, hw5⟩
        have HW5 := Lib.hid (HW4.out.trans (hw5.mono HW4.out.size))
        have HB5 := HB4.out.below hw5
        clear hw5
        have p0 := HB5.cell 0 rfl
        have p2 := HB5.cell 2 rfl
        clear HB5
        go_wp2_with fail
        refine (Ret.at_ (HR.out w5) HW5.out).mono ?_
        rintro e w6 ⟨rfl, hw6⟩
        go_wp2_with fail
        go_ret
        exact ⟨by rw [HL.out]; rfl, hw6⟩
      · by_cases k3 : vk = 3
        · subst k3
          obtain ⟨l1, rfl, hvi⟩ := lit_bool hv
          rcases hvi with rfl | rfl
          · have HL := Lib.hid l1
            clear hv l1
            go_wp2_with fail
            refine (null_call w2).mono ?_
            rintro e w3 ⟨rfl, hw3⟩
            have HW3 := Lib.hid (HW2.out.trans (hw3.mono HW2.out.size))
            clear hw3 p0 p1 p2
            go_wp2_with fail
            refine (true_call w3).mono ?_
            rintro e w4 ⟨rfl, hw4⟩
            have HW4 := Lib.hid (HW3.out.trans (hw4.mono HW3.out.size))
            clear hw4
            go_wp2_with fail
            refine (false_call w4).mono ?_
            rintro e w5 ⟨rfl, hw5⟩
            have HW5 := Lib.hid (HW4.out.trans (hw5.mono HW4.out.size))
            clear hw5
            go_wp2_with fail
            go_ret
            exact ⟨by rw [HL.out]; rfl, HW5.out⟩
          · have HL := Lib.hid l1
            clear hv l1
            go_wp2_with fail
            refine (null_call w2).mono ?_
            rintro e w3 ⟨rfl, hw3⟩
            have HW3 := Lib.hid (HW2.out.trans (hw3.mono HW2.out.size))
            clear hw3 p0 p1 p2
            go_wp2_with fail
            refine (true_call w3).mono ?_
            rintro e w4 ⟨rfl, hw4⟩
            have HW4 := Lib.hid (HW3.out.trans (hw4.mono HW3.out.size))
            clear hw4
            go_wp2_with fail
            go_ret
            exact ⟨by rw [HL.out]; rfl, HW4.out⟩
        · obtain ⟨l1, rfl, rfl, rfl⟩ := lit_kind hv k1 k2 k3
          have HL := Lib.hid l1
          clear hv l1
          go_wp2_with fail
          refine (null_call w2).mono ?_
          rintro e w3 ⟨rfl, hw3⟩
          have HW3 := Lib.hid (HW2.out.trans (hw3.mono HW2.out.size))
          clear hw3 p0 p1 p2
          go_wp2_with fail
          go_ret
          exact ⟨by rw [HL.out]; rfl, HW3.out⟩
end Go.Proofs.YtlimlmjljjmcpaaGreatDoor.Px
