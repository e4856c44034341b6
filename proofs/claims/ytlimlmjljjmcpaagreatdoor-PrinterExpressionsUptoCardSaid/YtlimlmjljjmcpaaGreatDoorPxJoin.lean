/-
  Lists of texts in memory; join and texts: the program's.
-/
import Derived.Test.YtlimlmjljjmcpaaGreatDoorPxDep
import Derived.Test.YtlimlmjljjmcpaaGreatDoorPxNum
import Derived.Test.YtlimlmjljjmcpaaGreatDoorLbEnv
namespace Go.Proofs.YtlimlmjljjmcpaaGreatDoor.Px
open Go Go.RowKit Go.Proofs.YtlimlmjljjmcpaaGreatDoor.Ps
set_option linter.unusedVariables false
set_option linter.unusedSimpArgs false
/-- a list of texts in memory -/
def SV (w : World) (L : List S) (a : Option Addr) : Prop := ∀ (j : Nat) (s : S), L[j]? = some s → ∃ b o, a = some ⟨b, o, none⟩ ∧ b < w.heap.size ∧ w.cell? ⟨b, o + j, none⟩ = some (strV s)
theorem SV.at_ {w : World} {L : List S} {a : Option Addr} (h : SV w L a) {k : Nat} (hk : k < L.length) : ∃ b o, a = some ⟨b, o, none⟩ ∧ b < w.heap.size ∧ w.cell? ⟨b, o + k, none⟩ = some (strV L[k]) := h k _ (List.getElem?_eq_getElem hk)
theorem SV.below {w w' : World} {L : List S} {a : Option Addr} (h : SV w L a) (hb : Below w.heap.size w w') : SV w' L a := fun j s hs => by
  obtain ⟨b, o, e, hl, hc⟩ := h j s hs
  exact ⟨b, o, e, Nat.lt_of_lt_of_le hl hb.size, (hb.cell hl).trans hc⟩
/-- the texts that are not empty -/
def jl (L : List S) : List S := L.filter fun s => !s.isEmpty
theorem jl_all {L : List S} (h : ∀ s ∈ L, s ≠ []) : jl L = L := by
  unfold jl
  refine List.filter_eq_self.2 fun s hs => ?_
  have := h s hs
  cases s with
  | nil => exact absurd rfl this
  | cons a s => rfl
theorem jl_take {L : List S} {k : Nat} (h : k < L.length) : jl (L.take (k + 1)) = jl (L.take k) ++ (if L[k].isEmpty then [] else [L[k]]) := by
  unfold jl
  rw [List.take_succ_eq_append_getElem h, List.filter_append]
  cases he : L[k].isEmpty <;> simp [List.filter_cons, he]
theorem jl_len (L : List S) : (jl L).length ≤ L.length := List.length_filter_le _ _
/-- a list of texts that a walk owns -/
def OwnS (B : Nat) (v : Value) (M : List S) (w : World) : Prop := w.ownsRow B 9 1 v M.length (M.map strV)
theorem OwnS.nil (B : Nat) (w : World) : OwnS B (.slice none 0 0) [] w := World.ownsRow_nil _ _ _ _
theorem OwnS.snoc {B : Nat} {v : Value} {M : List S} {s : S} {w : World} (h : w.ownsRow B 9 1 v (M.length + 1) (M.map strV ++ [.string ⟨s.toArray⟩])) : OwnS B v (M ++ [s]) w := by
  unfold OwnS
  rw [List.length_append, List.map_append]
  exact h
theorem OwnS.below {B : Nat} {v : Value} {M : List S} {w w' : World} (h : OwnS B v M w) (hb : Below w.heap.size w w') : OwnS B v M w' := kept_below h hb
theorem OwnS.form {B : Nat} {v : Value} {M : List S} {w : World} (h : OwnS B v M w) : ∃ a c, v = .slice a M.length c ∧ SV w M a := by
  unfold OwnS at h
  by_cases h0 : M.length = 0
  · obtain ⟨A', n', c', rfl⟩ := own_slice h
    obtain rfl := own_len h
    exact ⟨A', c', rfl, fun j s hs => by rw [List.eq_nil_of_length_eq_zero h0] at hs; cases hs⟩
  · obtain ⟨g, cap, rfl, hg1, hg2⟩ := h.form (by omega)
    refine ⟨_, cap, rfl, fun j s hs => ⟨g, 0, rfl, hg2, ?_⟩⟩
    have e1 : (⟨g, 0, none⟩ : Addr).add j = ⟨g, 0 + j, none⟩ := by unfold Addr.add; split <;> simp_all
    rw [← e1]
    refine h.cells (g := g) rfl j _ ?_
    rw [List.getElem?_map, hs]
    rfl
theorem sjoin_call {M : List S} (sep : S) {a : Option Addr} {c : Nat} {w : World} (h : SV w M a) (hc : M.length ≤ c) (hn : M.length ≤ 1099511627776) (hl : (Lib.join M sep).length ≤ 1099511627776) : Calls Tryz.prog 108 #[.slice a M.length c, .string ⟨sep.toArray⟩] w (Ret w (.string ⟨(Lib.join M sep).toArray⟩)) := by
  have e0 : (M.map fun s => (⟨s.toArray⟩ : ByteArray)).map (·.data.toList) = M := by rw [List.map_map]; simp [Function.comp_def]
  have e2 : (ByteArray.mk sep.toArray).data.toList = sep := mkL sep
  by_cases h0 : M.length = 0
  · obtain rfl : M = [] := List.eq_nil_of_length_eq_zero h0
    refine (Tryz.strings_Join_none a c ⟨sep.toArray⟩ w).mono ?_
    rintro e w' ⟨rfl, rfl⟩
    exact ⟨rfl, Below.refl _ _⟩
  · obtain ⟨g, o, rfl, hg, _⟩ := h.at_ (k := 0) (by omega)
    have hj := Tryz.strings_Join g o c (M.map fun t => ⟨t.toArray⟩) ⟨sep.toArray⟩ w (fun j x hx => by
      rw [List.getElem?_map] at hx
      rcases hx2 : M[j]? with _ | u
      · rw [hx2] at hx; cases hx
      · rw [hx2] at hx
        simp only [Option.map_some, Option.some.injEq] at hx
        obtain ⟨b, o', e, _, hcell⟩ := h j u hx2
        injection e with e
        injection e with e3 e4
        subst e3 e4
        rw [hcell, ← hx]
        rfl) hg (by rw [List.length_map]; omega) (by rw [List.length_map]; exact hc) (by rw [e0, e2]; omega)
    rw [e0, e2, List.length_map] at hj
    exact hj
theorem OwnS.cap {B : Nat} {M : List S} {w : World} {a : Option Addr} {n c : Nat} (h : OwnS B (.slice a n c) M w) : M.length ≤ c := own_cap h
def JnRel (w : World) (L : List S) (v i : Value) (wr : World) : Prop :=
  ∃ k : Nat, k ≤ L.length ∧ i = .int .i64 k ∧ OwnS w.heap.size v (jl (L.take k)) wr ∧ Below w.heap.size w wr
set_option maxRecDepth 100000 in
set_option maxHeartbeats 4000000 in
theorem join_call (L : List S) (a : Option Addr) (c : Nat) (w : World) (hn : L.length ≤ 1099511627776) (hv : SV w L a) (hl : (Lib.join (jl L) [32]).length ≤ 1099511627776) : Calls Tryz.prog 48 #[.slice a L.length c] w (Ret w (.string ⟨(Lib.join (jl L) [32]).toArray⟩)) := by
  obtain ⟨i0, hi0, hz0, hz1, hz2⟩ := info_parts info_str
  have HV := Lib.hid hv
  have HLN := Lib.hid hl
  clear hv hl
  go_enter Tryz.func48, Tryz.ntmps48
  go_wp2_with fail
  go_loopw [3, 5, 8] (fun v _ i wr => JnRel w L v i wr) (fun _ _ i _ => L.length - (intOf i).toNat)
  case atStart => exact ⟨0, Nat.zero_le _, rfl, OwnS.nil _ _, Below.refl _ _⟩
  case round =>
    obtain ⟨k, hk, rfl, ho, hb⟩ := hrel
    have HO := Lib.hid ho
    have HB := Lib.hid hb
    by_cases hlt : k < L.length
    · obtain ⟨g, o, rfl, hg, hc0⟩ := HV.out.at_ hlt
      have hc1 : wr.cell? ⟨g, o + k, none⟩ = some (.string ⟨(L[k]).toArray⟩) := (hb.cell hg).trans hc0
      have k0 : (0 : Int) ≤ (k : Int) := by omega
      have k1 : (k : Int) < (L.length : Int) := by omega
      have hem := mkE L[k]
      have HK := Lib.hid (jl_take hlt)
      have hlt2 : ∀ g, u3.ownBlock = some g → w.heap.size ≤ g := fun g e => (ho.lt g e).1
      have hkl : (jl (L.take k)).length ≤ k := Nat.le_trans (jl_len _) (by rw [List.length_take]; omega)
      clear ho hb hc0 hg
      generalize L[k] = s at hc1 hem HK
      cases he : s.isEmpty <;> rw [he] at hem
      · go_wp2_with (at_builtin; refine wpList_append_own_at _ rfl (.tmp 14) (.tmp 16) 111 rfl w.heap.size 9 i0 _ 1 16 Tryz.underlying111 hi0 hz0 hz1 hz2 rfl (by omega) u3 (jl (L.take k)).length _ rfl (World.ownsRow.alloc HO.out _) ⟨wr.heap.size, 0, none⟩ 1 1 [.string ⟨s.toArray⟩] rfl rfl (cell_lit1 _ _ _) (fun u hu => by obtain rfl := List.mem_singleton.1 hu; rfl) (by unfold maxLen; omega) (by omega) (Nat.le_trans HB.out.size (by simp)) ?_)
        intro v3 w3 hown3 hg3 _ hat3
        have hb3 : Below w.heap.size w w3 := (HB.out.alloc HB.out.size _).grown hg3 (Nat.le_trans HB.out.size (by simp)) hlt2
        have HO3 : Hid (OwnS w.heap.size v3 (jl (L.take (k + 1))) w3) := Lib.hid (by rw [HK.out, he]; exact OwnS.snoc hown3)
        clear hown3 hg3 hat3
        go_wp2_with fail
        go_roundw
        case rel => exact ⟨k + 1, by omega, by go_num, HO3.out, hb3⟩
        case measure => simp [intOf]; omega
      · have HO3 : Hid (OwnS w.heap.size u3 (jl (L.take (k + 1))) wr) := Lib.hid (by rw [HK.out, he]; simpa using HO.out)
        go_wp2_with fail
        go_roundw
        case rel => exact ⟨k + 1, by omega, by go_num, HO3.out, HB.out⟩
        case measure => simp [intOf]; omega
    · obtain rfl : k = L.length := by omega
      rw [List.take_length] at ho
      obtain ⟨a2, c2, rfl, hs⟩ := ho.form
      have HJ := Lib.hid (Ret.at_ (sjoin_call [32] hs ho.cap (Nat.le_trans (jl_len L) hn) HLN.out) HB.out)
      have d1 : decide ((L.length : Int) < (L.length : Int)) = false := decide_eq_false (by omega)
      clear ho hb hs HO
      go_wp2_with fail
      refine HJ.out.mono ?_
      rintro e w' ⟨rfl, hb2⟩
      go_wp2_with fail
      go_ret
      exact ⟨rfl, hb2⟩
/-! ### texts -/
theorem opds0 (l : List X) : opds 0 l = l.map txt := by rw [opds_map]; exact List.map_congr_left fun x _ => opd_zero x
theorem map_txt_take {l : List X} {k : Nat} (h : k < l.length) : (l.take (k + 1)).map txt = (l.take k).map txt ++ [txt l[k]] := by
  rw [List.take_succ_eq_append_getElem h, List.map_append]
  rfl
def TsRel (w : World) (l : List X) (v i : Value) (wr : World) : Prop :=
  ∃ k : Nat, k ≤ l.length ∧ i = .int .i64 k ∧ OwnS w.heap.size v ((l.take k).map txt) wr ∧ Below w.heap.size w wr
set_option maxRecDepth 100000 in
set_option maxHeartbeats 4000000 in
theorem texts_call (l : List X) (a : Option Addr) (c : Nat) (w : World) (hn : l.length ≤ 1099511627776) (hv : XL w l (.slice a l.length c)) (hlen : (Lib.join (l.map txt) [44, 32]).length ≤ 1099511627776)
    (HI : ∀ x ∈ l, ∀ (cs : List Value) (w' : World), Below w.heap.size w w' → XR w' x cs → Calls Tryz.prog 27 #[.agg cs.toArray] w' (Ret w' (.string ⟨(txt x).toArray⟩))) :
    Calls Tryz.prog 70 #[.slice a l.length c, .func (.func 27) #[] #[]] w (Ret w (.string ⟨(Lib.join (l.map txt) [44, 32]).toArray⟩)) := by
  obtain ⟨i0, hi0, hz0, hz1, hz2⟩ := info_parts info_str
  have HL := Lib.hid hv
  have HLN := Lib.hid hlen
  have HI := Lib.hid HI
  clear hv hlen
  go_enter Tryz.func70, Tryz.ntmps70
  go_wp2_with fail
  go_loopw [5, 10] (fun v i wr => TsRel w l v i wr) (fun _ i _ => l.length - (intOf i).toNat)
  case atStart => exact ⟨0, Nat.zero_le _, rfl, OwnS.nil _ _, Below.refl _ _⟩
  case round =>
    obtain ⟨k, hk, rfl, ho, hb⟩ := hrel
    have HO := Lib.hid ho
    have HB := Lib.hid hb
    by_cases hlt : k < l.length
    · obtain ⟨g, o, us, eq, hgl, hcell, hkx, hrx⟩ := HL.out.at_ hlt
      subst eq
      have HX := Lib.hid hrx
      have hmem := List.getElem_mem (l := l) hlt
      obtain ⟨eop, eint, evk, evi, evs, enm, el, ee⟩ : ∃ eop eint evk evi evs enm el, l[k] = X.mk eop eint evk evi evs enm el := by
        cases l[k]
        exact ⟨_, _, _, _, _, _, _, rfl⟩
      rw [ee] at hrx
      obtain ⟨ea, em, rfl, _⟩ := hrx.lits
      have rr : ∀ j (u : Value), ([.int .i64 eop, .int .i64 eint, .int .i64 evk, .int .i64 evi, .string ⟨evs.toArray⟩, .string ⟨enm.toArray⟩, .slice ea el.length em] : List Value)[j]? = some u → wr.cell? ⟨g, o + k * 7 + j, none⟩ = some u := fun j u hu => (hb.cell (by exact hgl)).trans (hcell j u hu)
      have r0 := rr 0 _ rfl
      have r1 := rr 1 _ rfl
      have r2 := rr 2 _ rfl
      have r3 := rr 3 _ rfl
      have r4 := rr 4 _ rfl
      have r5 := rr 5 _ rfl
      have r6 := rr 6 _ rfl
      simp only [Nat.add_zero] at r0
      have c2 : (k : Int) < (l.length : Int) := by omega
      have c3 : (0 : Int) ≤ (k : Int) := by omega
      have d1 : decide ((k : Int) < (l.length : Int)) = true := decide_eq_true c2
      have gl : g < wr.heap.size := by have := hb.size; omega
      have HK := Lib.hid (map_txt_take hlt)
      have hlt2 : ∀ g, u5.ownBlock = some g → w.heap.size ≤ g := fun g e => (ho.lt g e).1
      have hkl : ((l.take k).map txt).length ≤ k := by rw [List.length_map, List.length_take]; omega
      clear rr hcell hrx ee ho hb
      generalize (l.take k).map txt = M at HO HK hkl
      go_wp2_with fail
      refine (HI.out l[k] hmem _ _ (HB.out.trans ((below1 wr _).mono HB.out.size)) (HX.out.kept (HB.out.trans ((below1 wr _).mono HB.out.size)) (Nat.le_refl _))).mono ?_
      rintro e' w4 ⟨rfl, hw4⟩
      have HB4 := Lib.hid ((HB.out.trans ((below1 wr _).mono HB.out.size)).trans (hw4.mono (by have := HB.out.size; simp; omega)))
      have HO4 := Lib.hid (OwnS.below (OwnS.below HO.out (below1 wr _)) hw4)
      clear hw4 HO HB r0 r1 r2 r3 r4 r5 r6
      go_wp2_with (at_builtin; refine wpList_append_own_at _ rfl (.tmp 14) (.tmp 18) 111 rfl w.heap.size 9 i0 _ 1 16 Tryz.underlying111 hi0 hz0 hz1 hz2 rfl (by omega) u5 M.length _ rfl (World.ownsRow.alloc HO4.out _) ⟨w4.heap.size, 0, none⟩ 1 1 [.string ⟨(txt l[k]).toArray⟩] rfl rfl (cell_lit1 _ _ _) (fun u hu => by obtain rfl := List.mem_singleton.1 hu; rfl) (by unfold maxLen; omega) (by omega) (Nat.le_trans HB4.out.size (by simp)) ?_)
      intro v3 w3 hown3 hg3 _ hat3
      have hb3 : Below w.heap.size w w3 := (HB4.out.alloc HB4.out.size _).grown hg3 (Nat.le_trans HB4.out.size (by simp)) hlt2
      have HO3 : Hid (OwnS w.heap.size v3 ((l.take (k + 1)).map txt) w3) := Lib.hid (by rw [HK.out]; exact OwnS.snoc hown3)
      clear hown3 hg3 hat3
      go_wp2_with fail
      go_roundw
      case rel => exact ⟨k + 1, by omega, by go_num, HO3.out, hb3⟩
      case measure => simp [intOf]; omega
    · obtain rfl : k = l.length := by omega
      rw [List.take_length] at ho
      have hML : (l.map txt).length = l.length := List.length_map _
      clear HO
      generalize hMe : l.map txt = M at ho HLN hML
      have HMe := Lib.hid hMe
      clear hMe
      obtain ⟨a2, c2, rfl, hs⟩ := ho.form
      have HJ := Lib.hid (Ret.at_ (sjoin_call [44, 32] hs ho.cap (by rw [hML]; exact hn) HLN.out) HB.out)
      clear hML
      have d1 : decide ((l.length : Int) < (l.length : Int)) = false := decide_eq_false (by omega)
      clear ho hb hs
      go_wp2_with fail
      refine HJ.out.mono ?_
      rintro e w' ⟨rfl, hb2⟩
      go_wp2_with fail
      go_ret
      exact ⟨by rw [HMe.out]; rfl, hb2⟩
end Go.Proofs.YtlimlmjljjmcpaaGreatDoor.Px
