/-
  The walk of bitemporallaw18.SyntaxBlanks: it returns true for every text and every number.
-/
import Derived.Test.YtpmncgbpbcgfaaaGreatDoorSyDepth
import Derived.Test.YtpmncgbpbcgfaaaGreatDoorSsD
import Derived.Test.YtpmncgbpbcgfaaaGreatDoorPlB
namespace Go.Proofs.YtpmncgbpbcgfaaaGreatDoor
open Go.RowKit
set_option linter.unusedVariables false
set_option linter.unusedSimpArgs false

/-- what is put behind a space -/
def bx (n : Int) : List UInt8 := if n.tmod 3 = 0 then [10] else if n.tmod 3 = 1 then [32] else []
theorem bx_blank (n : Int) : ∀ c ∈ bx n, blankB c.toNat = true := by
  intro c hc
  unfold bx at hc
  split at hc
  · rw [List.mem_singleton.1 hc]; decide
  · split at hc
    · rw [List.mem_singleton.1 hc]; decide
    · cases hc
theorem bx_len (n : Int) : (bx n).length ≤ 1 := by
  unfold bx
  split
  · simp
  · split <;> simp
def qaft (l : List UInt8) : Bool := l.foldl quotes false
theorem ins_snoc (x : List UInt8) (c : UInt8) : ∀ (l : List UInt8) (q : Bool), ins x q (l ++ [c]) = ins x q l ++ (c :: (if quotes (l.foldl quotes q) c = false ∧ c = 32 then x else []))
  | [], q => by
    show c :: ((if quotes q c = false ∧ c = 32 then x else []) ++ ins x (quotes q c) []) = [] ++ _
    rw [show ins x (quotes q c) [] = [] from rfl, List.append_nil]
    rfl
  | d :: l, q => by
    show d :: ((if quotes q d = false ∧ d = 32 then x else []) ++ ins x (quotes q d) (l ++ [c])) = (d :: ((if quotes q d = false ∧ d = 32 then x else []) ++ ins x (quotes q d) l)) ++ _
    rw [ins_snoc x c l]
    simp only [List.cons_append, List.append_assoc]
    rfl
theorem ins_take (x : List UInt8) (l : List UInt8) (k : Nat) (hk : k < l.length) : ins x false (l.take (k + 1)) = ins x false (l.take k) ++ (l[k] :: (if quotes (qaft (l.take k)) l[k] = false ∧ l[k] = 32 then x else [])) := by
  rw [List.take_succ_eq_append_getElem hk, ins_snoc]
  rfl
theorem qaft_take (l : List UInt8) (k : Nat) (hk : k < l.length) : qaft (l.take (k + 1)) = quotes (qaft (l.take k)) l[k] := by
  unfold qaft
  rw [List.take_succ_eq_append_getElem hk, List.foldl_append]
  rfl
theorem post_zero {α : Type} {rep : Rep α} {zero cs : List Value} {x : Nat → P α} {s : ByteArray} {w w' : World} {i c : Nat} (hc : c = 0) (h : TopPost rep zero x s w (.returned (.tuple #[.agg cs.toArray, .int .i64 (i : Int), .int .i64 (c : Int)])) w') :
    ∃ T a, Comes_ s.data.toList (.toks T) ∧ pWhole (x (3 * T.length + 3)) (cores T) = .ok a ∧ rep w' (Fp w.heap.size []) a cs := by
  subst hc
  obtain ⟨r, hc, ho, hb⟩ := h
  rcases r with ⟨i, c⟩ | T
  · obtain ⟨h0, h1⟩ := ho
    injection h1 with h1; injection h1 with h1; injection h1 with h1
    simp at h1
    omega
  · unfold TopOut at ho
    dsimp only at ho
    rcases hq : pWhole (x (3 * T.length + 3)) (cores T) with a | _ | ⟨j, c⟩
    · rw [hq] at ho
      obtain ⟨ds, h1, hr⟩ := ho
      injection h1 with h1; injection h1 with h1; injection h1 with h1
      simp at h1
      obtain ⟨h1, _⟩ := h1
      subst h1
      exact ⟨T, a, hc, hq, hr⟩
    · rw [hq] at ho
      replace ho : (Ending.returned _ : Ending) = _ := ho
      injection ho with h1; injection h1 with h1; injection h1 with h1
      simp at h1
    · rw [hq] at ho
      obtain ⟨h0, h1⟩ := ho
      injection h1 with h1; injection h1 with h1; injection h1 with h1
      simp at h1
      omega
theorem tmod3 (n : Int) : -3 < n.tmod 3 ∧ n.tmod 3 < 3 := by
  rcases n with a | a
  · show -3 < ((a % 3 : Nat) : Int) ∧ ((a % 3 : Nat) : Int) < 3
    omega
  · show -3 < -(((a + 1) % 3 : Nat) : Int) ∧ -(((a + 1) % 3 : Nat) : Int) < 3
    omega
theorem bytes_cat (a : List UInt8) (b : ByteArray) (c : List UInt8) (h : b.data.toList = c) : (⟨a.toArray⟩ : ByteArray) ++ b = ⟨(a ++ c).toArray⟩ := by
  apply bytesEq
  rw [← h]
  simp
theorem blanks_again {x l : List UInt8} (hx : ∀ c ∈ x, blankB c.toNat = true) (hx1 : x.length ≤ 1) (hl : l.length ≤ 20000) {T : List Tok} (hc : Comes_ l (.toks T)) {a : Stm} (hp : pWhole (pStatement (3 * T.length + 3)) (cores T) = .ok a) :
    ∃ T', Comes_ (ins x false l) (.toks T') ∧ pWhole (pStatement (3 * T'.length + 3)) (cores T') = .ok a := by
  rcases hc with ⟨h, h2⟩ | ⟨h, h2⟩
  · cases h2
  · obtain ⟨T', h3, h4⟩ := blanks_tokens hx h2
    have h5 : T'.length = T.length := by simpa using congrArg List.length h4
    refine ⟨T', .inr ⟨by have := ins_length x hx1 false l; omega, h3⟩, ?_⟩
    rw [h5, show cores T' = cores T from h4]
    exact hp
structure BlAt (l : List UInt8) (x : List UInt8) (k : Nat) (c8 c9 c30 : Value) (w wr : World) : Prop where
  le : k ≤ l.length
  c8 : c8 = .string ⟨(ins x false (l.take k)).toArray⟩
  c9 : c9 = .bool (qaft (l.take k))
  c30 : c30 = .int .i64 (k : Int)
  w : wr = w
set_option maxHeartbeats 8000000 in
set_option maxRecDepth 100000 in
theorem syntaxBlanks_walk (s : ByteArray) (n : Int) (w : World) (ht : Tab w) : Calls Tryz.prog 3 #[.string s, .int .i64 n] w fun e w' => e = .returned (.bool true) ∧ Below w.heap.size w w' := by
  have HT := Lib.hid ht
  clear ht
  go_enter Tryz.func3, Tryz.ntmps3
  go_wp2_with fail
  refine (statementT_call s w HT.out).mono ?_
  rintro e w1 hpost
  have HP := Lib.hid hpost
  obtain ⟨cs, i, c, h1⟩ := two_of goodStm rfl (goodStm.one (stmZero_rep w (fun _ => True))) Dp.statement hpost
  obtain rfl := h1.e
  have HL := Lib.hid h1.len
  have HO := Lib.hid h1.one
  have hb := h1.bel
  replace HT := Lib.hid (HT.out.below hb)
  clear h1 hpost
  go_wp2_with (refine store_new rfl 57 (.tmp 5) (.tmp 17) rfl cs rfl rfl 57 (stmZ Stm.zero) (by rw [HL.out]; kernel_rfl) (by rw [HL.out]; rfl) HO.out ?_)
  intro w2 hB hb2 hz2
  replace HT := Lib.hid (HT.out.below hb2)
  replace hb := hb.trans (hb2.mono hb.size)
  by_cases hc : c = 0
  · by_cases hsz : 20000 < s.size
    · have d1 : ((c : Int) != 0) = false := by rw [bne_eq_false_iff_eq]; omega
      have d2 : decide ((20000 : Int) < (s.size : Int)) = true := decide_eq_true (by omega)
      go_wp2_with fail
      refine (awake18_call w2 HT.out).mono ?_
      rintro e w8 ⟨rfl, hb8⟩
      have HB := Lib.hid (hb.trans (hb8.mono hb.size))
      clear hb8 hb
      go_wp2_with fail
      go_ret
      exact ⟨rfl, HB.out⟩
    · have d1 : ((c : Int) != 0) = false := by rw [bne_eq_false_iff_eq]; omega
      have d2 : decide ((20000 : Int) < (s.size : Int)) = false := decide_eq_false (by omega)
      obtain ⟨T, a, hcm, hpw, hrep⟩ := post_zero hc HP.out
      have HCM := Lib.hid hcm
      have HPW := Lib.hid hpw
      have HR2 := Lib.hid (goodStm.below hrep hb2)
      clear hcm hpw hrep HP hb2 hz2
      generalize w1.heap.size = g1 at hB ⊢
      have hsz2 : s.data.toList.length = s.size := by rw [Array.length_toList]; rfl
      go_wp2_with fail
      go_loopw [8, 9, 30] (fun c8 c9 c30 wr => ∃ k, BlAt s.data.toList (bx n) k c8 c9 c30 w2 wr) (fun _ _ c30 _ => s.size - (intOf c30).toNat)
      case atStart => exact ⟨0, ⟨Nat.zero_le _, rfl, rfl, rfl, rfl⟩⟩
      case round =>
        obtain ⟨k, ⟨hk, rfl, rfl, rfl, rfl⟩⟩ := hrel
        rw [hsz2] at hk
        by_cases hlt : k < s.size
        · have hi := ins_take (bx n) s.data.toList k (by rw [hsz2]; exact hlt)
          have hqt := qaft_take s.data.toList k (by rw [hsz2]; exact hlt)
          rw [show s.data.toList[k]'(by rw [hsz2]; exact hlt) = s[k] by simp [ByteArray.getElem_eq_getElem_data]] at hi hqt
          have HI := Lib.hid hi
          have HQT := Lib.hid hqt
          clear hi hqt
          have c2 : (k : Int) < (s.size : Int) := by omega
          have c3 : (0 : Int) ≤ (k : Int) := by omega
          have d3 : decide ((k : Int) < (s.size : Int)) = true := decide_eq_true c2
          have e1 : IntKind.i64.wrap ((k : Int) + 1) = (k : Int) + 1 := by rw [IntWalk.i64_in _ (by omega)]
          have hpl : (ins (bx n) false (s.data.toList.take k)).length ≤ 40000 := by
            have h1 := ins_length (bx n) (bx_len n) false (s.data.toList.take k)
            have h2 : (s.data.toList.take k).length ≤ 20000 := by rw [List.length_take]; omega
            omega
          generalize ins (bx n) false (s.data.toList.take k) = pre at HI hpl ⊢
          generalize qaft (s.data.toList.take k) = q at HI HQT ⊢
          have HS : Hid ((⟨pre.toArray⟩ : ByteArray) ++ s.extract k (k + 1) = ⟨(pre ++ [s[k]]).toArray⟩) := Lib.hid (bytes_cat _ _ _ (by rw [extract_one hlt]))
          have hps2 : (⟨(pre ++ [s[k]]).toArray⟩ : ByteArray).size ≤ 40001 := by show (pre ++ [s[k]]).toArray.size ≤ 40001; simp; omega
          have hm1 := tmod3 n
          have em : IntKind.i64.wrap (n.tmod 3) = n.tmod 3 := by rw [IntWalk.i64_in _ (by omega)]
          go_upto_region 9 with (fail)
          go_upto_if 36 with (fail)
          go_cut [9] (fun c9 wx => c9 = .bool (quotes q s[k]) ∧ wx = wr)
          case first =>
            by_cases hq : s[k].toNat = 39
            · have q1 : ((s[k].toNat : Int) == 39) = true := beq_iff_eq.2 (by omega)
              have HQ : Hid (quotes q s[k] = !q) := Lib.hid (by unfold quotes; rw [if_pos (UInt8.toNat_inj.1 hq)])
              go_wp2_with fail
              go_meet
              exact ⟨by rw [HQ.out], rfl⟩
            · have q1 : ((s[k].toNat : Int) == 39) = false := beq_eq_false_iff_ne.2 (by omega)
              have HQ : Hid (quotes q s[k] = q) := Lib.hid (by unfold quotes; rw [if_neg (fun e => hq (by rw [e]; rfl))])
              go_wp2_with fail
              go_meet
              exact ⟨by rw [HQ.out], rfl⟩
          case rest =>
            obtain ⟨rfl, rfl⟩ := hcut
            generalize hq' : quotes q s[k] = q' at HI HQT ⊢
            clear hq'
            go_upto_region 12 with (fail)
            rw [HS.out]
            have hsk : s[k] = 32 ↔ s[k].toNat = 32 := ⟨fun e => by rw [e]; rfl, fun e => UInt8.toNat_inj.1 e⟩
            rcases q' with _ | _
            · by_cases h32 : s[k].toNat = 32
              · have n1 : ((s[k].toNat : Int) == 32) = true := beq_iff_eq.2 (by omega)
                have HI2 : Hid (ins (bx n) false (s.data.toList.take (k + 1)) = pre ++ [s[k]] ++ bx n) := Lib.hid (by rw [HI.out, if_pos ⟨rfl, hsk.2 h32⟩]; simp)
                clear HI HS hsk
                by_cases h0 : n.tmod 3 = 0
                · have m0 : (n.tmod 3 == 0) = true := beq_iff_eq.2 h0
                  have HI3 : Hid (ins (bx n) false (s.data.toList.take (k + 1)) = pre ++ [s[k]] ++ [10]) := Lib.hid (by rw [HI2.out]; unfold bx; rw [if_pos h0])
                  have HC : Hid ((⟨(pre ++ [s[k]]).toArray⟩ : ByteArray) ++ (⟨#[10]⟩ : ByteArray) = ⟨(pre ++ [s[k]] ++ [10]).toArray⟩) := Lib.hid (bytes_cat _ _ _ rfl)
                  go_upto_region 17 with (fail)
                  rw [HC.out]
                  go_wp2_with fail
                  go_roundw
                  case rel => exact ⟨k + 1, ⟨by rw [hsz2]; omega, by rw [HI3.out], by rw [HQT.out], by go_num, rfl⟩⟩
                  case measure => simp [intOf]; omega
                · have m0 : (n.tmod 3 == 0) = false := beq_eq_false_iff_ne.2 h0
                  by_cases h1 : n.tmod 3 = 1
                  · have m1 : (n.tmod 3 == 1) = true := beq_iff_eq.2 h1
                    have HI3 : Hid (ins (bx n) false (s.data.toList.take (k + 1)) = pre ++ [s[k]] ++ [32]) := Lib.hid (by rw [HI2.out]; unfold bx; rw [if_neg h0, if_pos h1])
                    have HC : Hid ((⟨(pre ++ [s[k]]).toArray⟩ : ByteArray) ++ (⟨#[32]⟩ : ByteArray) = ⟨(pre ++ [s[k]] ++ [32]).toArray⟩) := Lib.hid (bytes_cat _ _ _ rfl)
                    go_upto_region 17 with (fail)
                    rw [HC.out]
                    go_wp2_with fail
                    go_roundw
                    case rel => exact ⟨k + 1, ⟨by rw [hsz2]; omega, by rw [HI3.out], by rw [HQT.out], by go_num, rfl⟩⟩
                    case measure => simp [intOf]; omega
                  · have m1 : (n.tmod 3 == 1) = false := beq_eq_false_iff_ne.2 h1
                    have HI3 : Hid (ins (bx n) false (s.data.toList.take (k + 1)) = pre ++ [s[k]]) := Lib.hid (by rw [HI2.out]; unfold bx; rw [if_neg h0, if_neg h1, List.append_nil])
                    go_wp2_with fail
                    go_roundw
                    case rel => exact ⟨k + 1, ⟨by rw [hsz2]; omega, by rw [HI3.out], by rw [HQT.out], by go_num, rfl⟩⟩
                    case measure => simp [intOf]; omega
              · have n1 : ((s[k].toNat : Int) == 32) = false := beq_eq_false_iff_ne.2 (by omega)
                have HI3 : Hid (ins (bx n) false (s.data.toList.take (k + 1)) = pre ++ [s[k]]) := Lib.hid (by rw [HI.out, if_neg (fun e => h32 (hsk.1 e.2))])
                clear HI HS hsk
                go_wp2_with fail
                go_roundw
                case rel => exact ⟨k + 1, ⟨by rw [hsz2]; omega, by rw [HI3.out], by rw [HQT.out], by go_num, rfl⟩⟩
                case measure => simp [intOf]; omega
            · have HI3 : Hid (ins (bx n) false (s.data.toList.take (k + 1)) = pre ++ [s[k]]) := Lib.hid (by rw [HI.out, if_neg (fun e => by cases e.1)])
              clear HI HS hsk
              go_wp2_with fail
              go_roundw
              case rel => exact ⟨k + 1, ⟨by rw [hsz2]; omega, by rw [HI3.out], by rw [HQT.out], by go_num, rfl⟩⟩
              case measure => simp [intOf]; omega
        · obtain rfl : k = s.size := by omega
          have d3 : decide ((s.size : Int) < (s.size : Int)) = false := decide_eq_false (by omega)
          rw [show s.data.toList.take s.size = s.data.toList from List.take_of_length_le (by rw [hsz2]; exact Nat.le_refl _)]
          obtain ⟨T', hc2, hp2⟩ := blanks_again (x := bx n) (bx_blank n) (bx_len n) (by rw [hsz2]; omega) HCM.out HPW.out
          have HC2 := Lib.hid hc2
          have HP2 := Lib.hid hp2
          clear hc2 hp2
          go_wp2_with fail
          refine (stmOk_at _ (ins (bx n) false s.data.toList) (by simp) HC2.out HP2.out _ HT.out).mono ?_
          rintro e w5 ⟨ds, rfl, hr5, hb5⟩
          have HL5 := Lib.hid (goodStm.len hr5)
          have HO5 := Lib.hid (goodStm.one hr5)
          have HR5 := Lib.hid hr5
          replace HR2 := Lib.hid (goodStm.below HR2.out hb5)
          replace HT := Lib.hid (HT.out.below hb5)
          replace hb := hb.trans (hb5.mono hb.size)
          replace hB := hB.below hb5
          clear hb5 hr5
          go_wp2_with (refine store_new rfl 57 (.tmp 11) (.tmp 68) rfl ds rfl rfl 57 (stmZ Stm.zero) (by rw [HL5.out]; kernel_rfl) (by rw [HL5.out]; rfl) HO5.out ?_)
          intro w6 hX hb6 hz6
          replace HR2 := Lib.hid (goodStm.below HR2.out hb6)
          replace HR5 := Lib.hid (goodStm.below HR5.out hb6)
          replace HT := Lib.hid (HT.out.below hb6)
          replace hb := hb.trans (hb6.mono hb.size)
          replace hB := hB.below hb6
          clear hb6 hz6
          generalize w5.heap.size = g5 at hX ⊢
          go_wp2_with (first | (refine op_met rfl (wpList_load_mid rfl 57 (.tmp 5) rfl g1 0 rfl cs _ hB.all Tryz.underlying57 rfl (by rw [HL.out]; kernel_rfl) ?_)) | (refine op_met rfl (wpList_load_mid rfl 57 (.tmp 11) rfl g5 0 rfl ds _ hX.all Tryz.underlying57 rfl (by rw [HL5.out]; kernel_rfl) ?_)))
          refine (sameT_call a cs ds w6 _ _ HR2.out HR5.out).mono ?_
          rintro e w7 ⟨rfl, hb7⟩
          replace HT := Lib.hid (HT.out.below hb7)
          replace hb := hb.trans (hb7.mono hb.size)
          clear hb7 hB hX
          go_wp2_with fail
          refine (awake18_call w7 HT.out).mono ?_
          rintro e w8 ⟨rfl, hb8⟩
          have HB := Lib.hid (hb.trans (hb8.mono hb.size))
          clear hb8 hb
          go_wp2_with fail
          go_ret
          exact ⟨rfl, HB.out⟩
  · have d1 : ((c : Int) != 0) = true := by rw [bne_iff_ne]; omega
    go_wp2_with fail
    refine (awake18_call w2 HT.out).mono ?_
    rintro e w8 ⟨rfl, hb8⟩
    have HB := Lib.hid (hb.trans (hb8.mono hb.size))
    clear hb8 hb
    go_wp2_with fail
    go_ret
    exact ⟨rfl, HB.out⟩
end Go.Proofs.YtpmncgbpbcgfaaaGreatDoor
