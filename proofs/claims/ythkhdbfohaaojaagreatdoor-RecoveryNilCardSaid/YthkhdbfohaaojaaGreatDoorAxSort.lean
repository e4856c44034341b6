/-
  slices.Sorted(maps.Keys(m)), known beforehand: a map's keys, sorted, in a new slice.
-/
import Derived.Test.YthkhdbfohaaojaaGreatDoorAxOrc
import Derived.Sort.KeysCollected
import Derived.Shelf.SlIter.Sorted
set_option linter.unusedVariables false
set_option linter.unusedSimpArgs false
namespace Go.Proofs.YthkhdbfohaaojaaGreatDoor.Ax
open Go Go.RowKit Go.Maps
open Go.WideElems (Fit rd rg)

def lexLt : List Nat → List Nat → Bool
  | [], [] => false
  | [], _ :: _ => true
  | _ :: _, [] => false
  | a :: l, b :: m => bif Nat.ble (a + 1) b then true else bif Nat.beq a b then lexLt l m else false
def insK (x : List Nat) : List (List Nat) → List (List Nat)
  | [] => [x]
  | y :: r => bif lexLt x y then x :: y :: r else y :: insK x r
def sortK : List (List Nat) → List (List Nat)
  | [] => []
  | x :: r => insK x (sortK r)
def ascK : List (List Nat) → Bool
  | [] => true
  | a :: r => r.all (lexLt a) && ascK r
theorem insK_perm (x : List Nat) : ∀ l : List (List Nat), (insK x l).Perm (x :: l)
  | [] => List.Perm.refl _
  | y :: r => by
    unfold insK
    cases lexLt x y with
    | true => exact List.Perm.refl _
    | false => exact ((insK_perm x r).cons y).trans (List.Perm.swap x y r)
theorem sortK_perm : ∀ l : List (List Nat), (sortK l).Perm l
  | [] => List.Perm.refl _
  | x :: r => (insK_perm x _).trans ((sortK_perm r).cons x)
abbrev u8 (l : List Nat) : List UInt8 := l.map UInt8.ofNat
theorem lexLt_lt : ∀ {l m : List Nat}, (∀ x ∈ l, x < 256) → (∀ x ∈ m, x < 256) → lexLt l m = true → u8 l < u8 m
  | [], [], _, _, h => by cases h
  | [], b :: m, _, _, _ => by simp [u8]
  | a :: l, [], _, _, h => by cases h
  | a :: l, b :: m, ha, hb, h => by
    have a1 := ha a (by simp)
    have b1 := hb b (by simp)
    unfold lexLt at h
    simp only [u8, List.map_cons]
    rw [List.cons_lt_cons_iff]
    cases h1 : Nat.ble (a + 1) b with
    | true =>
      refine .inl ?_
      rw [UInt8.lt_iff_toNat_lt, UInt8.toNat_ofNat', UInt8.toNat_ofNat', Nat.mod_eq_of_lt (by simpa using a1), Nat.mod_eq_of_lt (by simpa using b1)]
      exact Nat.le_of_ble_eq_true h1
    | false =>
      rw [h1, cond_false] at h
      cases h2 : Nat.beq a b with
      | true =>
        rw [h2, cond_true] at h
        have e := Nat.eq_of_beq_eq_true h2
        subst e
        exact .inr ⟨rfl, lexLt_lt (fun x hx => ha x (by simp [hx])) (fun x hx => hb x (by simp [hx])) h⟩
      | false =>
        rw [h2, cond_false] at h
        cases h
theorem ascK_pairwise : ∀ {l : List (List Nat)}, (∀ x ∈ l, ∀ n ∈ x, n < 256) → ascK l = true → (l.map u8).Pairwise (· < ·)
  | [], _, _ => List.Pairwise.nil
  | a :: r, hb, h => by
    unfold ascK at h
    rw [Bool.and_eq_true] at h
    rw [List.map_cons, List.pairwise_cons]
    refine ⟨fun y hy => ?_, ascK_pairwise (fun x hx => hb x (by simp [hx])) h.2⟩
    obtain ⟨z, hz, rfl⟩ := List.mem_map.1 hy
    exact lexLt_lt (hb a (by simp)) (hb z (by simp [hz])) (List.all_eq_true.1 h.1 z hz)
theorem sort_sorted {l : List (List UInt8)} {s : List (List UInt8)} (hp : s.Perm l) (hs : s.Pairwise (· < ·)) : l.mergeSort leB = s := by
  have tr : ∀ a b c : List UInt8, leB a b = true → leB b c = true → leB a c = true := fun a b c h1 h2 => by simp only [leB, decide_eq_true_eq] at *; exact List.le_trans h1 h2
  have to : ∀ a b : List UInt8, (leB a b || leB b a) = true := fun a b => by simp only [leB, Bool.or_eq_true, decide_eq_true_eq]; exact List.le_total a b
  refine List.Perm.eq_of_pairwise (le := fun a b => leB a b = true) (fun a b _ _ h1 h2 => ?_) (List.pairwise_mergeSort tr to l) (hs.imp fun {a b} hab => ?_) ((List.mergeSort_perm l leB).trans hp.symm)
  · simp only [leB, decide_eq_true_eq] at h1 h2
    exact List.le_antisymm h1 h2
  · simp only [leB, decide_eq_true_eq]
    exact List.le_of_lt hab
def keysE : List (RV × RV × Nat) → Option (List (List Nat))
  | [] => some []
  | (.str l, _, _) :: r => match keysE r with
    | some ls => some (l :: ls)
    | none => none
  | _ :: _ => none
def ascB : List (RV × RV × Nat) → Nat → Nat → Bool
  | [], lo, ck => Nat.ble lo ck
  | (_, _, b) :: r, lo, ck => Nat.ble lo b && ascB r (b + 1) ck
def strsF {β : Type} : List (List Nat) → (List RV → β) → β
  | [], k => k []
  | l :: r, k => strsF r fun rs => k (.str l :: rs)
theorem strsF_eq {β : Type} : ∀ (l : List (List Nat)) (k : List RV → β), strsF l k = k (l.map RV.str)
  | [], k => rfl
  | x :: r, k => by
    unfold strsF
    rw [strsF_eq r]
    rfl
/-- the box that maps.Keys laid -/
def boxMap (h : Hp) (r : RV) : Option (Nat × List (RV × RV × Nat) × Nat) :=
  match r with
  | .ptr G0 e0 0 => match cellsAt h G0 e0 with
    | some (_, _, _, .mp G :: _) => match h.get G with
      | some (.mp es ck) => some (G, es, ck)
      | _ => none
    | _ => none
  | _ => none
/-- slices.Sorted (fs) of maps.Keys' iterator (fk); kt: the keys' type -/
def sortO (fs fk : FuncId) (kt : TypeId) : CallR := fun who args h nx =>
  match who, args with
  | .fn f, [.clo k [] [b]] => bif Nat.beq f fs && Nat.beq k fk then (match boxMap h b with
    | some (_, es, ck) => bif Nat.ble es.length 1000 && ascB es 0 ck then (match keysE es with
      | some ks => bif ks.all (fun l => Nat.ble l.length 1000000) && ascK (sortK ks) then (match sortK ks with
        | [] => some (.ret (.lit (.slice none 0 0)), h, nx)
        | x :: r => strsF (x :: r) fun cs => forceN (r.length + 1) fun n => forceN (nx + 1) fun nx' => putT h nx (.cells kt false 1 [(0, cs)]) fun h' => some (.ret (.sl nx 0 0 n 1), h', nx')) else none
      | none => none) else none
    | none => none) else none
  | _, _ => none
theorem ascB_spec : ∀ {es : List (RV × RV × Nat)} {lo ck : Nat}, ascB es lo ck = true → (∀ b ∈ es.map (fun e => e.2.2), lo ≤ b ∧ b < ck) ∧ (es.map (fun e => e.2.2)).Nodup ∧ lo ≤ ck
  | [], lo, ck, h => ⟨fun b hb => by (cases hb), List.nodup_nil, Nat.le_of_ble_eq_true h⟩
  | (k, v, b) :: r, lo, ck, h => by
    unfold ascB at h
    rw [Bool.and_eq_true] at h
    obtain ⟨h1, h2, h3⟩ := ascB_spec h.2
    have hlo := Nat.le_of_ble_eq_true h.1
    refine ⟨fun x hx => ?_, ?_, by omega⟩
    · rw [List.map_cons] at hx
      rcases List.mem_cons.1 hx with rfl | hx
      · exact ⟨hlo, h3⟩
      · have := h1 x hx
        omega
    · rw [List.map_cons, List.nodup_cons]
      refine ⟨fun hm => ?_, h2⟩
      have := (h1 _ hm).1
      simp only at this
      omega
theorem keysE_spec : ∀ {es : List (RV × RV × Nat)} {ks : List (List Nat)}, keysE es = some ks → es.map (fun e => e.1) = ks.map RV.str
  | [], ks, h => by
    cases h
    rfl
  | (k, v, b) :: r, ks, h => by
    cases k with
    | str l =>
      unfold keysE at h
      split at h
      · rename_i ls e
        cases h
        rw [List.map_cons, List.map_cons, keysE_spec e]
      · cases h
    | _ => cases h
section
variable {P : Program} {c : Cx} {g : Gm} {h : Hp} {nx : Nat} {w w' : World}
/-- what is asked of slices.Sorted at what maps.Keys handed back -/
def SortLaw (P : Program) (fs fk : FuncId) (kt : TypeId) : Prop :=
  ∀ (b nn Bm : Nat) (D0 : DataW Unit) (R : Value → Option (DataW Unit × List MemPlace)) (w : World), Bm < w.heap.size → w.cell? ⟨Bm, 0, none⟩ = some (.map (some b)) → w.ownsMap P kt R b nn D0 → Maps.size D0 ≤ maxLen → Maps.size D0 * 16 ≤ 140737488355328 →
    Calls P fs #[.func (.func fk) #[] #[.pointer (some ⟨Bm, 0, none⟩)]] w fun e w' => ∃ (v : Value) (ss : List (List UInt8)), e = .returned v ∧ ss.Perm (strKeys D0) ∧
      w'.ownsRow w.heap.size kt 1 v ss.length ((ss.mergeSort (fun x y => decide (x ≤ y))).map Go.Proofs.encStr) ∧ (v = .slice none 0 0 ↔ ss = []) ∧ Below w.heap.size w w'
theorem boxMap_spec {r : RV} {G ck : Nat} {es : List (RV × RV × Nat)} (hb : boxMap h r = some (G, es, ck)) (hw : RW c g h nx w) {v : Value} (hv : R g c.env r v) :
    h.get G = some (.mp es ck) ∧ ∃ Bm b, v = .pointer (some ⟨Bm, 0, none⟩) ∧ Bm < w.heap.size ∧ w.cell? ⟨Bm, 0, none⟩ = some (.map (some b)) ∧ g G 0 = some (b, 0) := by
  unfold boxMap at hb
  split at hb
  · rename_i G0 e0
    split at hb
    · rename_i el z nxe G' rest hc
      split at hb
      · rename_i es' ck' hg
        cases hb
        refine ⟨hg, ?_⟩
        cases hv with
        | @ptr _ _ _ q n hq =>
          obtain ⟨_, hl, hlive, _⟩ := hw.at_ hc hq
          obtain ⟨v, h1, h2, _⟩ := hl.cell (j := 0) (by simp)
          simp only [List.getElem_cons_zero] at h2
          cases h2 with
          | @mp _ q' n' hq' =>
            obtain ⟨_, q2, arr, h3, _⟩ := hw.ok G _ hg
            rw [hq'] at h3
            cases h3
            exact ⟨q, q', rfl, (hw.live_at hlive hq).2, h1, hq'⟩
      · cases hb
    · cases hb
  · cases hb
theorem sortO_ok {fs fk : FuncId} {kt : TypeId} (hr : Runs P fs) (hk : P.underlying kt = some .string) (hS : SortLaw P fs fk kt) : CallOK P (sortO fs fk kt) := by
  refine ⟨fun f args h nx re h2 nx2 hc => ?_, fun G args h nx re h2 nx2 hc => by cases hc⟩
  unfold sortO at hc
  split at hc
  case h_2 => cases hc
  rename_i f k b ea
  cases ea
  cases hb : Nat.beq f fs && Nat.beq k fk with
  | false => rw [hb] at hc; cases hc
  | true =>
  rw [hb, cond_true] at hc
  rw [Bool.and_eq_true] at hb
  have e1 := Nat.eq_of_beq_eq_true hb.1
  have e2 := Nat.eq_of_beq_eq_true hb.2
  subst e1 e2
  split at hc
  case h_2 => cases hc
  rename_i G es ck hbox
  cases hb2 : Nat.ble es.length 1000 && ascB es 0 ck with
  | false => rw [hb2] at hc; cases hc
  | true =>
  rw [hb2, cond_true] at hc
  rw [Bool.and_eq_true] at hb2
  split at hc
  case h_2 => cases hc
  rename_i ks hks
  cases hb3 : ks.all (fun l => Nat.ble l.length 1000000) && ascK (sortK ks) with
  | false => rw [hb3] at hc; cases hc
  | true =>
  rw [hb3, cond_true] at hc
  rw [Bool.and_eq_true] at hb3
  refine ⟨hr, fun c g w vs hv hw K hK => ?_⟩
  -- the arguments
  obtain ⟨v, rfl⟩ : ∃ v, vs = [v] := by
    have := hv.len
    rcases vs with _ | ⟨v, _ | ⟨u, vs⟩⟩
    · cases this
    · exact ⟨v, rfl⟩
    · simp at this
  have hv0 := hv.at_ 0 (by simp) (by simp)
  simp only [List.getElem_cons_zero] at hv0
  cases hv0 with
  | @clo _ _ _ us xs hm kk hn hh =>
  have hus : us = #[] := by
    apply Array.eq_empty_of_size_eq_zero
    simpa using hm.symm
  subst hus
  obtain ⟨x, rfl⟩ : ∃ x, xs = #[x] := by
    have hx : xs.size = 1 := by simpa using hn.symm
    refine ⟨xs[0], ?_⟩
    apply Array.ext
    · simpa using hx
    · intro i h1 h2
      have : i = 0 := by omega
      subst this
      rfl
  have hx := hh 0 (by simp) (by simp)
  simp only [List.getElem_cons_zero, List.getElem_toArray] at hx
  obtain ⟨hget, Bm, bq, rfl, hBm, hcell, hgq⟩ := boxMap_spec hbox hw hx
  -- the map
  obtain ⟨hfree, q, arr, hq, hKq, hheap, hsz, hent⟩ := hw.ok G _ hget
  rw [hgq] at hq
  cases hq
  obtain ⟨hasc, hnod, _⟩ := ascB_spec hb2.2
  have hlenes : es.length ≤ 1000 := Nat.le_of_ble_eq_true hb2.1
  have hkl := keysE_spec hks
  have hklen : es.length = ks.length := by
    have := congrArg List.length hkl
    simpa using this
  have hborn : arr.toList.map (·.born) = es.map (fun e => e.2.2) := by
    apply List.ext_getElem
    · simp [hsz]
    · intro j h1 h2
      simp only [List.getElem_map, Array.getElem_toList]
      exact (hent j (by simpa using h2) (by simpa using h1)).2.2
  have hkeyR : ∀ j (h1 : j < ks.length) (h2 : j < arr.size), arr[j].key = .string (ofCodes ks[j]) ∧ ∀ n ∈ ks[j], n < 256 := by
    intro j h1 h2
    have h3 := (hent j (by omega) h2).1
    have e : es[j].1 = .str ks[j] := by
      have := congrArg (fun l => l[j]?) hkl
      simp only [List.getElem?_map] at this
      rw [List.getElem?_eq_getElem (by omega), List.getElem?_eq_getElem h1] at this
      simpa using this
    rw [e] at h3
    generalize arr[j].key = kv at h3
    cases h3 with
    | str hh => exact ⟨rfl, hh⟩
  have hkeys : arr.toList.map (·.key) = ks.map fun l => Value.string (ofCodes l) := by
    apply List.ext_getElem
    · simp [hsz, hklen]
    · intro j h1 h2
      simp only [List.getElem_map, Array.getElem_toList]
      exact (hkeyR j (by simpa using h2) (by simpa using h1)).1
  have h256 : ∀ l ∈ ks, ∀ n ∈ l, n < 256 := by
    intro l hl
    obtain ⟨j, hj, rfl⟩ := List.mem_iff_getElem.1 hl
    exact (hkeyR j hj (by omega)).2
  have hperm := sortK_perm ks
  have hpw := ascK_pairwise (fun x hx => h256 x (hperm.mem_iff.1 hx)) hb3.2
  have hpermu : ((sortK ks).map u8).Perm (ks.map u8) := hperm.map u8
  have hnodu : (ks.map u8).Nodup := by
    refine (hpermu.nodup_iff).1 (hpw.imp fun {a b} hab e => ?_)
    subst e
    exact List.lt_irrefl _ hab
  have hlenl : ∀ l ∈ ks, l.length ≤ 1000000 := fun l hl => Nat.le_of_ble_eq_true (List.all_eq_true.1 hb3.1 l hl)
  let RU : Value → Option (DataW Unit × List MemPlace) := fun _ => some (.nil, [])
  have hkeyOf : ∀ j (h1 : j < ks.length) (h2 : j < arr.size), keyOf P kt arr[j].key = some (.string (u8 ks[j])) := by
    intro j h1 h2
    rw [(hkeyR j h1 h2).1]
    have := hlenl ks[j] (List.getElem_mem h1)
    simp only [keyOf, hk, mapKey]
    rw [if_pos (by
      have e : (ofCodes ks[j]).size = ks[j].length := by simp [ofCodes, ByteArray.size]
      rw [e]
      unfold maxLen
      omega)]
    simp [ofCodes]
  have hrd : ∀ j (h1 : j < ks.length) (h2 : j < arr.size), rd P kt RU arr[j] = some (.string (u8 ks[j]), .nil) := by
    intro j h1 h2
    simp [rd, hkeyOf j h1 h2, RU]
  have hfit : Fit P kt RU arr ck := by
    refine ⟨by unfold maxLen; omega, ⟨fun x hx => ?_, ?_, ?_⟩, fun x hx => ?_⟩
    · have hm : x.born ∈ es.map (fun e => e.2.2) := by
        rw [← hborn]
        exact List.mem_map.2 ⟨x, hx, rfl⟩
      exact (hasc _ hm).2
    · rw [hborn]
      exact hnod
    · rw [hkeys]
      have : (ks.map fun l => Value.string (ofCodes l)) = (ks.map u8).map fun l => Value.string ⟨l.toArray⟩ := by
        rw [List.map_map]
        rfl
      rw [this]
      exact List.pairwise_map.2 (hnodu.imp fun hab e => hab (by simpa using e))
    · obtain ⟨j, hj, rfl⟩ := List.mem_iff_getElem.1 hx
      exact ⟨_, hrd j (by simp [hsz, hklen] at hj ⊢; omega) (by simpa using hj)⟩
  have hrg : arr.toList.map (rg P kt RU) = ks.map fun l => ((.string (u8 l) : Lit), (.nil : DataW Unit)) := by
    apply List.ext_getElem
    · simp [hsz, hklen]
    · intro j h1 h2
      simp only [List.getElem_map, Array.getElem_toList]
      exact Go.WideElems.rg_of (hrd j (by simpa using h2) (by simpa using h1))
  have hown : w.ownsMap P kt RU bq arr.size (.map ((arr.toList.map (rg P kt RU)).foldr DataW.insert [])) := ⟨arr, ck, hheap, hfit, Nat.le_refl _, rfl⟩
  have hsize : Maps.size (.map ((arr.toList.map (rg P kt RU)).foldr DataW.insert []) : DataW Unit) = arr.size := by
    rw [Maps.size_eq, length_sorted]
    simp
  have hsk : (strKeys (.map ((arr.toList.map (rg P kt RU)).foldr DataW.insert []) : DataW Unit)).Perm (ks.map u8) := by
    show (List.map (fun p : Lit × DataW Unit => strOf p.1) _).Perm _
    refine ((WideShapes.sorted_perm _).map _).trans ?_
    rw [hrg, List.map_map]
    exact List.Perm.refl _
  refine (hS bq arr.size Bm _ RU w hBm hcell hown (by rw [hsize]; unfold maxLen; omega) (by rw [hsize]; omega)).mono ?_
  rintro e w' ⟨v, ss, rfl, hss, hrow, hnil, hbel⟩
  have hsort : ss.mergeSort leB = (sortK ks).map u8 := sort_sorted (hpermu.trans (hss.trans hsk).symm) hpw
  have hsslen : ss.length = (sortK ks).length := by
    have := congrArg List.length hsort
    simpa using this
  have hu := hw.under hbel
  split at hc
  · rename_i e0
    cases hc
    have : ss = [] := List.eq_nil_of_length_eq_zero (by rw [hsslen, e0]; rfl)
    rw [hnil.2 this]
    exact hK g _ w' (.lit _) (Ext.refl g) hu
  · rename_i x r e0
    rw [strsF_eq] at hc
    simp only [forceN_eq, putT_eq] at hc
    cases hc
    have hne : ss ≠ [] := by
      intro e
      rw [e, e0] at hsslen
      simp at hsslen
    rcases hrow.2 with ⟨ev, _⟩ | ⟨gb, cap, cur, rfl, hbase, hgb, r1, r2, r3, r4⟩
    · exact absurd (hnil.1 ev) hne
    have hgK : c.K gb = none := by
      cases hk2 : c.K gb with
      | none => rfl
      | some o => exact absurd (Array.getElem?_eq_some_iff.1 (hw.keep _ o hk2)).1 (by omega)
    have hfr : ∀ e, g nx e = none := fun e => hw.free nx e (Nat.le_refl _)
    have hext := gSet_ext (x := (gb, cur.size)) (hfr 0)
    have hlen2 : ss.length = r.length + 1 := by rw [hsslen, e0]; rfl
    have hcur : cur.toList.take ss.length = ((sortK ks).map u8).map Go.Proofs.encStr := by
      rw [← hsort, ← r4]
      simp
    have hcu : ∀ l ∈ sortK ks, ∀ n ∈ l, n < 256 := fun x hx => h256 x (hperm.mem_iff.1 hx)
    rw [hlen2]
    refine hK (gSet g nx 0 (gb, cur.size)) _ w' (.sl gSet_self (by omega) (by omega)) hext ?_
    have : RW { c with F := c.F } (gSet g nx 0 (gb, cur.size)) (h.set nx (.cells kt false 1 [(0, (x :: r).map RV.str)])) (nx + 1) w' := by
      refine hu.upd (F' := c.F) (G := nx) ⟨rfl, rfl, rfl, Nat.le_refl _⟩ (fun q o hq => rfl) (fun G' e' q n hne hl hq => rfl) hext (fun G' e' hne => gSet_ne hne) (fun y f hy => ⟨hy, ?_⟩) (Nat.le_succ _) (Nat.lt_succ_self _) ?_ ?_
      · have := (hw.res y f hy).1
        omega
      · refine ⟨fun e he => by rw [gSet_ne' (by omega)]; exact hfr e, fun e cs' hm => ?_⟩
        rw [List.mem_singleton] at hm
        cases hm
        refine ⟨gb, cur.size, gSet_self, hgK, cur, (0, 0), hgb, ⟨fun _ => rfl, fun j _ => by simp⟩, rfl, ?_, fun j h1 h2 => ?_⟩
        · simp only [List.length_map, List.length_cons]
          omega
        · have hj : j < ss.length := by
            simp only [List.length_map, List.length_cons] at h1
            omega
          have h3 := congrArg (fun l => l[j]?) hcur
          simp only [List.getElem?_take, if_pos hj, Array.getElem?_toList, e0, List.map_map] at h3
          rw [Array.getElem?_eq_getElem h2, List.getElem?_map, List.getElem?_eq_getElem (by simpa using h1)] at h3
          simp only [Option.map_some, Option.some.injEq] at h3
          rw [h3, List.getElem_map]
          have hmem : (x :: r)[j]'(by simpa using h1) ∈ sortK ks := by rw [e0]; exact List.getElem_mem _
          exact .str (hcu _ hmem)
      · rintro e q n ⟨cs', hm⟩ hq G' e' n' hne hl hq'
        rw [List.mem_singleton] at hm
        cases hm
        rw [gSet_self] at hq
        cases hq
        have := (hw.live_at hl hq').2
        omega
    exact this
end
end Go.Proofs.YthkhdbfohaaojaaGreatDoor.Ax
