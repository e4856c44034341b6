import Derived.Test.YtpmncgbpbcgfaaaGreatDoorPlA
import Derived.Test.YtpmncgbpbcgfaaaGreatDoorSxG
import Derived.Test.YtpmncgbpbcgfaaaGreatDoorSxV
import Derived.Test.YtpmncgbpbcgfaaaGreatDoorLxTokens
import Derived.Lib.SlTrimSet
import Derived.Test.YtpmncgbpbcgfaaaGreatDoorShelf3
/-
  Scripts as plain functions: statements separated by semicolons.
-/
namespace Go.Proofs.YtpmncgbpbcgfaaaGreatDoor
set_option linter.unusedVariables false
set_option linter.unusedSimpArgs false

def pScriptGo (m : Nat) : Nat → List Stm → P (List Stm)
  | 0, _ => fun _ _ _ => .fail 0 99
  | k + 1, l => fun C i d => if C.length ≤ i then .ok l i d else (do
      let a ← pStatement m
      if ← pSymbol [59] then pScriptGo m k (l ++ [a]) else pure (l ++ [a]) : P (List Stm)) C i d
def pScript (m : Nat) : P (List Stm) := pScriptGo m m []
theorem Nz.scriptGo (m : Nat) : ∀ k l, Nz (pScriptGo m k l)
  | 0, _ => Nz.out
  | k + 1, l => by
    intro C i d j c h
    unfold pScriptGo at h
    split at h
    · cases h
    · exact (Nz.bind (Nz.statement m) fun a => Nz.bind (Nz.symbol _) fun b => Nz.ite (Nz.scriptGo m k _) (Nz.ret _) : Nz _) C i d j c h
theorem Nz.script (m : Nat) : Nz (pScript m) := Nz.scriptGo m m []
end Go.Proofs.YtpmncgbpbcgfaaaGreatDoor

/-
  What Script hands to the parser's guard: statements, one after another, into a slice.
-/
namespace Go.Proofs.YtpmncgbpbcgfaaaGreatDoor
open Go.RowKit
set_option linter.unusedVariables false
set_option linter.unusedSimpArgs false

theorem info_stm : (Tryz.prog.info? 57).map (fun i => (i.zero, i.size, i.bytes)) = some (some (.agg (stmZ Stm.zero).toArray), 60, 816) := by kernel_rfl
def SLRep : Rep (List Stm) := fun w F l cs => ∃ v, LRep 60 StmRep w F l v ∧ cs = [v]
theorem goodSL : Good SLRep 1 where
  len := by rintro w F a cs ⟨v, h, rfl⟩; rfl
  one := by
    rintro w F a cs ⟨v, h, rfl⟩ u hu
    simp at hu
    rw [hu]
    exact h.one
  kept := by rintro w w' F a cs ⟨v, h, rfl⟩ hk; exact ⟨v, h.kept goodStm hk, rfl⟩
  mono := by rintro w F F' a cs ⟨v, h, rfl⟩ hk; exact ⟨v, h.mono goodStm hk, rfl⟩
/-- a slice of one struct, as the walk meets it in a region that draws its order -/
theorem build1_run (t e : TypeId) (s : Nat) (cs : List Value) (hu : Tryz.prog.underlying t = some (.slice e)) (hsz : (Tryz.prog.info? e).map (·.size) = some s) (hz : ((Tryz.prog.info? e).bind (·.zero)).isSome = true) (hs : 0 < s) (hs' : s ≤ 1000) (l1 : cs.length = s) (w : World) :
    (Instr.buildSlice t 1 #[(0, .agg cs.toArray)]).run Tryz.prog w = .ok (.slice (some ⟨w.heap.size, 0, none⟩) 1 1) (w.alloc (.cells cs.toArray e)) := by
  cases hie : Tryz.prog.info? e with
  | none => simp [hie] at hsz
  | some ie =>
    simp only [hie, Option.map_some, Option.some.injEq, Option.bind_some] at hsz hz
    obtain ⟨z, hzz⟩ := Option.isSome_iff_exists.1 hz
    refine run_buildSlice w t e 1 _ cs.toArray ie z hu hie hzz (by rw [hsz]; omega) (by rw [hsz]; omega) ?_
    rw [hsz]
    have := Go.Great.fill_whole (s := s) hs [.agg cs.toArray] ((Array.range (1 * s)).map (z.cells[· % z.cells.size]!)) (fun v hv => by simp at hv; rw [hv]; simp [Value.cells, l1]) (by simp)
    simpa [Value.cells] using this
theorem fold_set : ∀ (cs : List Value) (k : Nat) (z : Array Value), k + cs.length = z.size → (List.foldl (fun (a : Array Value) (x : Value × Nat) => a.setIfInBounds x.snd x.fst) z (cs.zipIdx k)).toList = z.toList.take k ++ cs
  | [], k, z, h => by
    simp only [List.zipIdx_nil, List.foldl_nil, List.append_nil]
    rw [List.take_of_length_le]
    simp at h
    simp [h]
  | c :: cs, k, z, h => by
    simp only [List.zipIdx_cons, List.foldl_cons]
    simp only [List.length_cons] at h
    rw [fold_set cs (k + 1) _ (by simp; omega)]
    have hk : k < z.toList.length := by simp; omega
    rw [Array.toList_setIfInBounds, List.take_succ_eq_append_getElem (by simpa using hk), List.getElem_set_self, List.take_set_of_le (Nat.le_refl _)]
    simp
theorem fold_stm {cs : List Value} (h : cs.length = 60) : List.foldl (fun (a : Array Value) (x : Value × Nat) => a.setIfInBounds x.snd x.fst) #[.int .i64 0, .int .i64 0, .int .i64 0, .int .i64 0, .int .i64 0, .bool false, .bool false, .slice none 0 0, .string ⟨#[]⟩, .string ⟨#[]⟩, .int .i64 0, .int .i64 0, .int .i64 0, .int .i64 0, .slice none 0 0, .bool false, .int .i64 0, .int .i64 0, .int .i64 0, .int .i64 0, .string ⟨#[]⟩, .string ⟨#[]⟩, .slice none 0 0, .slice none 0 0, .slice none 0 0, .slice none 0 0, .int .i64 0, .string ⟨#[]⟩, .slice none 0 0, .slice none 0 0, .bool false, .int .i64 0, .int .i64 0, .int .i64 0, .int .i64 0, .string ⟨#[]⟩, .string ⟨#[]⟩, .slice none 0 0, .string ⟨#[]⟩, .slice none 0 0, .slice none 0 0, .slice none 0 0, .slice none 0 0, .slice none 0 0, .int .i64 0, .string ⟨#[]⟩, .string ⟨#[]⟩, .string ⟨#[]⟩, .int .i64 0, .bool false, .int .i64 0, .int .i64 0, .string ⟨#[]⟩, .string ⟨#[]⟩, .string ⟨#[]⟩, .int .i64 0, .int .i64 0, .int .i64 0, .int .i64 0, .int .i64 0] cs.zipIdx = cs.toArray := by
  apply Array.ext'
  have := fold_set cs 0 #[.int .i64 0, .int .i64 0, .int .i64 0, .int .i64 0, .int .i64 0, .bool false, .bool false, .slice none 0 0, .string ⟨#[]⟩, .string ⟨#[]⟩, .int .i64 0, .int .i64 0, .int .i64 0, .int .i64 0, .slice none 0 0, .bool false, .int .i64 0, .int .i64 0, .int .i64 0, .int .i64 0, .string ⟨#[]⟩, .string ⟨#[]⟩, .slice none 0 0, .slice none 0 0, .slice none 0 0, .slice none 0 0, .int .i64 0, .string ⟨#[]⟩, .slice none 0 0, .slice none 0 0, .bool false, .int .i64 0, .int .i64 0, .int .i64 0, .int .i64 0, .string ⟨#[]⟩, .string ⟨#[]⟩, .slice none 0 0, .string ⟨#[]⟩, .slice none 0 0, .slice none 0 0, .slice none 0 0, .slice none 0 0, .slice none 0 0, .int .i64 0, .string ⟨#[]⟩, .string ⟨#[]⟩, .string ⟨#[]⟩, .int .i64 0, .bool false, .int .i64 0, .int .i64 0, .string ⟨#[]⟩, .string ⟨#[]⟩, .string ⟨#[]⟩, .int .i64 0, .int .i64 0, .int .i64 0, .int .i64 0, .int .i64 0] (by rw [h]; rfl)
  rw [this]
  simp
structure ScI (w w' : World) (p gs : Nat) (v : Value) (T : List Tok) (n : Nat) (l : List Stm) (k : Nat) (d : Bool) : Prop where
  st : St w' p v T k n d
  blk : ∃ vv, Blk w' gs [vv] 69 ∧ OwnL 60 57 StmRep w' w.heap.size l vv
  stays : Stays p gs w w'
structure ScRel (w w' : World) (p gs : Nat) (v : Value) (T : List Tok) (n m : Nat) (r : R (List Stm)) (gk : Nat) (l : List Stm) (k : Nat) (d : Bool) (m' : Nat) : Prop where
  gk : gk + k = T.length
  inv : ScI w w' p gs v T n l k d
  fuel : T.length + 1 ≤ m' + k
  len : l.length ≤ k
  pr : pScriptGo m m' l (cores T) k d = r
theorem stays_p {p gs : Nat} {w w2 w3 : World} (h1 : Stays p gs w w2) (h2 : w2.grownBy w3 (some p)) : Stays p gs w w3 :=
  ⟨h2.os.trans h1.os, h2.tape.trans h1.tape, h2.output.trans h1.output, Nat.le_trans h1.size h2.size, fun q hq h3 h4 => (h2.block q (Nat.lt_of_lt_of_le hq h1.size) (fun e => h4 (by injection e))).trans (h1.block q hq h3 h4)⟩
theorem stays_below {p gs : Nat} {w w2 w3 : World} (h1 : Stays p gs w w2) (h2 : Below w2.heap.size w2 w3) : Stays p gs w w3 :=
  ⟨h2.os.trans h1.os, h2.tape.trans h1.tape, h2.output.trans h1.output, Nat.le_trans h1.size h2.size, fun q hq h3 h4 => (h2.block q (Nat.lt_of_lt_of_le hq h1.size)).trans (h1.block q hq h3 h4)⟩
theorem ScI.below {w w1 w2 : World} {p gs : Nat} {v : Value} {T : List Tok} {n : Nat} {l : List Stm} {k : Nat} {d : Bool} (h : ScI w w1 p gs v T n l k d) (hb : Below w1.heap.size w1 w2) : ScI w w2 p gs v T n l k d :=
  ⟨h.st.below hb, let ⟨vv, a, b⟩ := h.blk; ⟨vv, a.below hb, b.below goodStm hb⟩, stays_below h.stays hb⟩
theorem ScI.call {w w1 w2 : World} {p gs : Nat} {v : Value} {T : List Tok} {n : Nat} {l : List Stm} {k j : Nat} {d d' : Bool} (h : ScI w w1 p gs v T n l k d) (hs : St w2 p v T j n d') (hg : w1.grownBy w2 (some p)) (h1 : gs ≠ p) (hp : p < w.heap.size) : ScI w w2 p gs v T n l j d' :=
  ⟨hs, let ⟨vv, a, b⟩ := h.blk; ⟨vv, a.grown hg h1, b.grown goodStm hg hp⟩, stays_p h.stays hg⟩
/-- the slice's variable is written -/
theorem ScI.push {w w1 w2 : World} {p gs g9 cap : Nat} {v : Value} {T : List Tok} {n : Nat} {l : List Stm} {b : Stm} {k : Nat} {d : Bool} {vv : Value} (hst : St w1 p v T k n d) (hbl : Blk w1 gs [vv] 69) (hsy : Stays p gs w w1) (h1 : gs ≠ p) (h2 : v.ownBlock ≠ some gs) (hgs : gs < w.heap.size) (hvv : ∀ g, vv.ownBlock = some g → w.heap.size ≤ g) (hpw : p < w.heap.size) (hvb : ∀ g, v.ownBlock = some g → g < w.heap.size)
    (hO : OwnL 60 57 StmRep w2 w.heap.size (l ++ [b]) (.slice (some ⟨g9, 0, none⟩) (l.length + 1) cap)) (hg : w1.grownBy w2 vv.ownBlock) :
    ScI w (w2.setCell ⟨gs, 0, none⟩ (.slice (some ⟨g9, 0, none⟩) (l.length + 1) cap)) p gs v T n (l ++ [b]) k d := by
  have k0 := only_setCell (World.grownBy.refl w2 (some gs)) 0 (.slice (some ⟨g9, 0, none⟩) (l.length + 1) cap)
  have hb2 : Blk w2 gs [vv] 69 := (hg.block gs hbl.lt (fun e => by have := hvv _ e.symm; omega)).trans hbl
  have hs2 : St w2 p v T k n d := by
    refine ⟨(hg.block p hst.ps.lt (fun e => by have := hvv _ e.symm; omega)).trans hst.ps, ⟨?_, hst.tk.ne, hst.tk.len, hst.tk.ok⟩, hst.le⟩
    obtain ⟨bs, ho⟩ := hst.tk.own
    refine ⟨bs, ho.kept hg ?_⟩
    rcases e : v.ownBlock with _ | q
    · exact .inl rfl
    · right
      intro hh
      have := hvb q e
      have := hvv q hh.symm
      omega
  refine ⟨hs2.own k0 h1 h2, ⟨_, hb2.set 0 _, ?_⟩, ?_⟩
  · have := hO.far goodStm k0 hgs
    simpa using this
  · exact ⟨k0.os.trans (hg.os.trans hsy.os), k0.tape.trans (hg.tape.trans hsy.tape), k0.output.trans (hg.output.trans hsy.output), Nat.le_trans hsy.size (Nat.le_trans hg.size k0.size), fun q hq h3 h4 => (k0.block q (Nat.lt_of_lt_of_le hq (Nat.le_trans hsy.size hg.size)) (fun e => h3 (by injection e))).trans ((hg.block q (Nat.lt_of_lt_of_le hq hsy.size) (fun e => by have := hvv _ e.symm; omega)).trans (hsy.block q hq h3 h4))⟩
set_option maxHeartbeats 8000000 in
set_option maxRecDepth 100000 in
theorem script1_call (m : Nat) (p gs : Nat) (v : Value) (T : List Tok) (n : Nat) (w : World) (h : St w p v T 0 n false) (hm : 3 * T.length + 3 ≤ m) (hb : Blk w gs [.slice none 0 0] 69) (h1 : gs ≠ p) (h2 : v.ownBlock ≠ some gs) :
    Calls Tryz.prog 27 #[.pointer (some ⟨p, 0, none⟩), .pointer (some ⟨gs, 0, none⟩)] w (GPost w p v T n gs (pScript m (cores T) 0 false) fun a w' => ∃ cs, Blk w' gs cs 69 ∧ SLRep w' (Fp w.heap.size []) a cs) := by
  obtain ⟨r, hr⟩ : ∃ r, pScript m (cores T) 0 false = r := ⟨_, rfl⟩
  rw [hr]
  obtain ⟨i0', hi0', hz0, hz1, hz2⟩ := info_parts info_stm
  have hpw : p < w.heap.size := h.ps.lt
  have hgs : gs < w.heap.size := hb.lt
  have hvb : ∀ g, v.ownBlock = some g → g < w.heap.size := fun g e => by obtain ⟨b, ho⟩ := h.tk.own; exact (ho.lt g e).2
  have HVB := Lib.hid hvb
  have hlT := h.tk.len
  obtain ⟨A, c, rfl, hA⟩ := h.slice
  have HA := Lib.hid hA
  have hI0 : ScI w w p gs (.slice A T.length c) T n [] 0 false := ⟨h, ⟨_, hb, OwnL.nil _ _⟩, ⟨rfl, rfl, rfl, Nat.le_refl _, fun _ _ _ _ => rfl⟩⟩
  have HI0 := Lib.hid hI0
  have HR := Lib.hid hr
  clear hr hA h hb hvb hI0
  go_enter Tryz.func27, Tryz.ntmps27
  go_wp2_with fail
  go_loopg [] T.length (fun gk wr => ∃ l k d m', ScRel w wr p gs (.slice A T.length c) T n m r gk l k d m')
  case atStart => exact ⟨[], 0, false, m, ⟨by omega, HI0.out, by omega, Nat.zero_le _, HR.out⟩⟩
  case round =>
    obtain ⟨l, k, d, m', ⟨hgk, hI, hfu, hln, hpr⟩⟩ := hrel
    obtain ⟨m', rfl⟩ : ∃ q, m' = q + 1 := ⟨m' - 1, by omega⟩
    have HPR := Lib.hid hpr
    have h0 := hI.st.ps.c0
    have hh1 := hI.st.ps.c1
    have hle := hI.st.le
    clear hpr HI0
    by_cases hlt : k < T.length
    · have d1 : decide ((k : Int) < (T.length : Int)) = true := decide_eq_true (by omega)
      have HPR2 : Hid ((pStatement m >>= fun a => pSymbol [59] >>= fun b => if b = true then pScriptGo m m' (l ++ [a]) else pure (l ++ [a])) (cores T) k d = r) := Lib.hid (by
        have h := HPR.out
        unfold pScriptGo at h
        rw [if_neg (by rw [cores_len]; omega)] at h
        exact h)
      go_upto_region 0 with (fail)
      go_quiet (fail)
      refine name_drew (K := Exit.then _ _ _ _) fun w2 hw2 hz2 => ?_
      replace hI := hI.below hw2
      clear h0 hh1 hw2 hz2 HPR
      obtain ⟨hst, ⟨vv, hbl, hO⟩, hsy⟩ := hI
      obtain ⟨A8, c8, rfl⟩ := hO.form
      have HVV : Hid (∀ g, (Value.slice A8 l.length c8).ownBlock = some g → w.heap.size ≤ g ∧ g < w2.heap.size) := Lib.hid hO.blk
      have HO := Lib.hid hO
      have HST := Lib.hid hst
      have HBL := Lib.hid hbl
      have HSY := Lib.hid hsy
      have hbase := hsy.size
      have r1 := hbl.cell 0 rfl
      have lgs := hbl.lt
      clear hO hst hbl hsy
      go_upto_region 1 with (fail)
      go_cut [] (fun wx => ∃ a j d', ScI w wx p gs (.slice A T.length c) T n (l ++ [a]) j d' ∧ k ≤ j ∧ (pSymbol [59] >>= fun b => if b = true then pScriptGo m m' (l ++ [a]) else pure (l ++ [a])) (cores T) j d' = r)
      case first =>
        go_region_law (first | (refine step_push goodStm (by rfl) (.tmp 13) (.tmp 16) 69 (by rfl) w.heap.size 57 i0' _ 816 Tryz.underlying69 hi0' hz0 hz1 hz2 (by rfl) (by omega) (by omega) (.slice A8 l.length c8) l (by rfl) (HO8.out.below goodStm (below1 w8 _)) w8.heap.size 1 cs a (by rfl) (Blk.new w8 _ _) (goodStm.below HE8.out (below1 w8 _)) (by omega) (by (try simp); omega) ?_; intro gg cap w9 hO9 hg9; have hS9 := (HS8.out.alloc _).push hg9 (fun e => by have := (HVV.out _ e).1; omega); have y91 := hS9.cell 0 rfl; have z91 := hS9.free 0; have HO9 := Lib.hid hO9; have HG9 := Lib.hid hg9) | (go_simp; go_at_call 16; refine PPost.use (statement_call m p _ T n _ k d (HST.out.drewN 1) (by omega)) (fun a j d' val w8 hr hv hs8 hij hg8 => ?_) (fun j c w' hr hg => ⟨rfl, (show GPost _ _ _ _ _ _ _ _ _ _ by rw [bind_fail hr HPR2.out]; exact ⟨rfl, stays_p (stays_below HSY.out (belowD w2 1)) hg⟩)⟩); obtain ⟨cs, rfl, hre⟩ := hv; have HLC := Lib.hid (goodStm.len hre); have hlc := HLC.out; have HBS := fold_stm hlc; have HS8 := Lib.hid ((HBL.out.drewN 1).grown hg8 h1); have HO8 := Lib.hid ((HO.out.below goodStm (belowD w2 1)).grown goodStm hg8 hpw); have HE8 : Hid (StmRep w8 (fun q => w.heap.size ≤ q ∧ (Value.slice A8 l.length c8).ownBlock ≠ some q) a cs) := Lib.hid (goodStm.mono hre fun q hq _ => ⟨Nat.le_trans hbase hq.1, fun e => by have h7 := (HVV.out q e).2; have h8 : w2.heap.size ≤ q := hq.1; omega⟩); have y1 := HS8.out.cell 0 rfl; have l8 : gs < w8.heap.size := HS8.out.lt; have h78 : w2.heap.size ≤ w8.heap.size := hg8.size; have HT8 := Lib.hid hs8; have HG8 := Lib.hid hg8; have HR8 := Lib.hid (bind_ok hr HPR2.out); have HIJ := Lib.hid hij; clear hr hre hs8 hg8 hij))
        all_goals
          have hfin := ScI.push (HT8.out.alloc _) (HS8.out.alloc _) (stays_below (stays_p (stays_below HSY.out (belowD w2 1)) HG8.out) (below1 w8 _)) h1 h2 hgs (fun g e => (HVV.out g e).1) hpw HVB.out HO9.out HG9.out
          have HFin := Lib.hid hfin
          clear hfin
          go_wp2_with fail
          go_meet
          exact ⟨a, j, d', HFin.out, HIJ.out, HR8.out⟩
      case rest =>
        obtain ⟨a, j, d', hI, hkj, hr2⟩ := hcut
        have HR2 := Lib.hid hr2
        have hlj := hI.st.le
        clear hr2 HO HST HBL HSY r1 lgs HVV hbase HPR2
        rename_i wx
        go_wp2_with fail
        refine symbol_use hI.st _ [59] rfl (fun w3 hx hs3 hg3 => ?_) (fun w3 hx hs3 hg3 => ?_)
        · have hI3 := hI.call hs3 hg3 h1 hpw
          have HR3 := Lib.hid (ifSymbol_yes hx HR2.out)
          have hle3 := hs3.le
          clear hI hx hs3 hg3 HR2
          go_wp2_with fail
          go_roundg (T.length - (j + 1))
          case measure => omega
          case rel => exact ⟨l ++ [a], j + 1, d', m', ⟨by omega, hI3, by omega, by simp; omega, HR3.out⟩⟩
        · have hI3 := hI.call hs3 hg3 h1 hpw
          have HR3 := Lib.hid (ifSymbol_no hx HR2.out)
          clear hI hx hs3 hg3 HR2
          go_wp2_with fail
          go_end0
          rw [← HR3.out]
          obtain ⟨vv, hb3, ho3⟩ := hI3.blk
          exact ⟨rfl, hI3.st, ⟨_, hb3, ⟨_, (ho3.done goodStm).mono goodStm fun b hb _ => ⟨hb, by simp⟩, rfl⟩⟩, hI3.stays⟩
    · obtain rfl : k = T.length := by omega
      have d1 : decide ((T.length : Int) < (T.length : Int)) = false := decide_eq_false (by omega)
      have HR3 : Hid (r = .ok l T.length d) := Lib.hid (by
        have h := HPR.out
        unfold pScriptGo at h
        rw [if_pos (by rw [cores_len]; omega)] at h
        exact h.symm)
      go_upto_region 0 with (fail)
      go_quiet (fail)
      refine name_drew (K := Exit.then _ _ _ _) fun w2 hw2 hz2 => ?_
      replace hI := hI.below hw2
      clear h0 hh1 hw2 hz2 HPR
      go_wp2_with fail
      go_end0
      rw [HR3.out]
      obtain ⟨vv, hb3, ho3⟩ := hI.blk
      exact ⟨rfl, hI.st, ⟨_, hb3, ⟨_, (ho3.done goodStm).mono goodStm fun b hb _ => ⟨hb, by simp⟩, rfl⟩⟩, hI.stays⟩
end Go.Proofs.YtpmncgbpbcgfaaaGreatDoor

/-
  The parser's door Script.
-/
namespace Go.Proofs.YtpmncgbpbcgfaaaGreatDoor
open Go.RowKit
set_option linter.unusedVariables false
set_option linter.unusedSimpArgs false

/-- what Script returns: a slice, a place, a code; the statements where the code is 0 -/
def ScrPost (s : ByteArray) (w : World) (e : Ending) (w' : World) : Prop := ∃ v i c, e = .returned (.tuple #[v, .int .i64 i, .int .i64 ((c : Nat) : Int)]) ∧ Below w.heap.size w w' ∧
  ((0 < c ∧ v = .slice none 0 0) ∨ (c = 0 ∧ ∃ T l, Comes_ s.data.toList (.toks T) ∧ pWhole (pScript (3 * T.length + 3)) (cores T) = .ok l ∧ LRep 60 StmRep w' (Fp w.heap.size []) l v))
theorem results_tmp3 {P : Program} {fn : Func} {p q s : Tmp} {v0 v1 v2 : Value} (h : fn.results = #[.tmp p, .tmp q, .tmp s]) (tmps : Array Value) (w : World) (h0 : tmps.getD p undef = v0) (h1 : tmps.getD q undef = v1) (h2 : tmps.getD s undef = v2) :
    (results fn tmps).run P w = .ok (.tuple #[v0, v1, v2]) w := by
  subst h0 h1 h2
  simp [results, h]
theorem enters_scr1 : ∀ args w, (callFunc 27 args).run Tryz.prog w = .ok (.enter 27 args) w := enters_of Tryz.func27 (by kernel_rfl) rfl
set_option maxHeartbeats 4000000 in
set_option maxRecDepth 100000 in
theorem script_call (s : ByteArray) (w : World) (ht : Tab w) :
    Calls Tryz.prog 12 #[.string s] w (ScrPost s w) := by
  have hmf : ∀ (fn : Fn) (first cap : Array Value) (w : World), (Instr.makeFunc fn first cap).run Tryz.prog w = .ok (.func fn first cap) w := fun _ _ _ _ => rfl
  have HT := Lib.hid ht
  clear ht
  go_enter Tryz.func12, Tryz.ntmps12
  go_wp2_with fail
  refine name_alloc (K := fun W => Calls _ _ _ W _) fun w1 hX hw1 hz1 => ?_
  replace hX : Blk w1 w.heap.size [.slice none 0 0] 69 := hX
  have HT1 := Lib.hid (HT.out.below hw1)
  refine (guarded_call SLRep goodSL 69 [.slice none 0 0] w.heap.size 27 pScript enters_scr1 (fun wx p v T n hst hb h1 h2 => script1_call (3 * T.length + 3) p w.heap.size v T n wx hst (Nat.le_refl _) hb h1 h2) s w1 HT1.out hX).mono ?_
  rintro e w2 ⟨r, hc, hout⟩
  have HC := Lib.hid hc
  clear hc HT HT1
  rcases r with ⟨i, c⟩ | T
  · obtain ⟨rfl, hw2⟩ := hout
    have hcn := (comes_err HC.out).1
    have hbl : Below w.heap.size w w2 := hw1.trans (hw2.mono hw1.size)
    have d1 : ((c : Int) != 0) = true := by rw [bne_iff_ne]; omega
    clear hX hw1 hw2
    go_wp2_with fail
    refine bodyPost_ret (results_tmp3 Tryz.results12 _ _ rfl rfl rfl) rfl ?_
    exact ⟨_, _, c, rfl, hbl, .inl ⟨hcn, rfl⟩⟩
  · obtain ⟨hsy, hres⟩ := hout
    have hbl : Below w.heap.size w w2 := hw1.trans (below_stays hsy (by omega) (by omega))
    have hs12 := hw1.size
    clear hX hw1 hsy
    rcases hq : pWhole (pScript (3 * T.length + 3)) (cores T) with a | _ | ⟨j, c⟩
    · rw [hq] at hres
      obtain ⟨rfl, cs, hbk, v, hv, rfl⟩ := hres
      have HQ := Lib.hid hq
      have HV := Lib.hid hv
      have b0 := hbk.cell 0 rfl
      clear hq hv hbk
      go_wp2_with fail
      refine bodyPost_ret (results_tmp3 Tryz.results12 _ _ rfl rfl rfl) rfl ?_
      exact ⟨v, 0, 0, rfl, hbl, .inr ⟨rfl, T, a, HC.out, HQ.out, HV.out.mono goodStm fun b hb _ => ⟨by have := hb.1; omega, by simp⟩⟩⟩
    · rw [hq] at hres
      obtain rfl := hres
      clear hq
      go_wp2_with fail
      refine bodyPost_ret (results_tmp3 Tryz.results12 _ _ rfl rfl rfl) rfl ?_
      exact ⟨_, 0, 26, rfl, hbl, .inl ⟨by omega, rfl⟩⟩
    · rw [hq] at hres
      obtain rfl := hres
      have hcn := (Nz.whole (Nz.script _) hq).1
      have d1 : ((c : Int) != 0) = true := by rw [bne_iff_ne]; omega
      clear hq
      go_wp2_with fail
      refine bodyPost_ret (results_tmp3 Tryz.results12 _ _ rfl rfl rfl) rfl ?_
      exact ⟨_, _, c, rfl, hbl, .inl ⟨hcn, rfl⟩⟩
end Go.Proofs.YtpmncgbpbcgfaaaGreatDoor

/-
  The parts of a script, as a plain function of its tokens; the tokens' positions ascend.
-/
namespace Go.Proofs.YtpmncgbpbcgfaaaGreatDoor
open Go.RowKit
set_option linter.unusedVariables false
set_option linter.unusedSimpArgs false

def lastAt (T : List Tok) : Nat → Int
  | 0 => -1
  | k + 1 => match T[k]? with | some t => (t.at_ : Int) | none => -1
def PosOk (l : List UInt8) (T : List Tok) : Prop := ∀ k (h : k < T.length), lastAt T k < (T[k].at_ : Int) ∧ ∃ h2 : T[k].at_ < l.length, blankB l[T[k].at_].toNat = false
theorem lastAt_snoc {T : List Tok} {t : Tok} {k : Nat} (h : k ≤ T.length) : lastAt (T ++ [t]) k = lastAt T k := by
  rcases k with _ | k
  · rfl
  · simp only [lastAt]
    rw [List.getElem?_append_left (by omega)]
theorem posOk_snoc {l : List UInt8} {T : List Tok} {t : Tok} {a : Nat} (h : PosOk l T) (hl : lastAt T T.length < (a : Int)) (ha : a < l.length) (hb : blankB l[a].toNat = false) (e : t.at_ = a) : PosOk l (T ++ [t]) := by
  intro k hk
  rcases Nat.lt_or_ge k T.length with h1 | h1
  · have h2 := h k h1
    rw [lastAt_snoc (by omega)]
    rw [List.getElem_append_left h1]
    exact h2
  · have : k = T.length := by simp at hk; omega
    subst this
    rw [lastAt_snoc (Nat.le_refl _)]
    simp only [List.getElem_concat_length]
    subst e
    exact ⟨hl, ha, hb⟩
theorem Lexes.pos {l : List UInt8} {a : Nat} {acc : List Tok} {r : Res} (h : Lexes l a acc r) : ∀ T, r = .toks T → PosOk l acc → lastAt acc acc.length < (a : Int) → PosOk l T := by
  induction h with
  | fin h => intro T e h1 _; cases e; exact h1
  | skip h hb _ ih => intro T e h1 h2; exact ih T e h1 (by omega)
  | err h hb hs => intro T e; cases e
  | tok h hb hs _ ih =>
    intro T e h1 h2
    have he := scanAt_end h hs
    refine ih T e (posOk_snoc h1 h2 h hb he.2.2) ?_
    rename_i a' acc' t' e' r' _
    have : lastAt (acc' ++ [t']) (acc' ++ [t']).length = (t'.at_ : Int) := by simp [lastAt]
    rw [this]
    omega
theorem comes_posC {l : List UInt8} {T : List Tok} (h : Comes_ l (.toks T)) : PosOk l T := by
  rcases h with ⟨_, h⟩ | ⟨_, h⟩
  · cases h
  · exact h.pos T rfl (fun k hk => absurd hk (by simp)) (by simp [lastAt])
theorem pos_lt {l : List UInt8} {T : List Tok} (h : PosOk l T) : ∀ (j k : Nat) (hk : k < T.length) (hj : j < k), (T[j]'(by omega)).at_ < T[k].at_
  | j, 0, hk, hj => absurd hj (by omega)
  | j, k + 1, hk, hj => by
    have h1 := (h (k + 1) hk).1
    have h2 : lastAt T (k + 1) = ((T[k]'(by omega)).at_ : Int) := by
      show (match T[k]? with | some t => (t.at_ : Int) | none => -1) = _
      rw [List.getElem?_eq_getElem (by omega)]
    rw [h2] at h1
    rcases Nat.lt_or_ge j k with hjk | hjk
    · have := pos_lt h j k (by omega) hjk
      omega
    · have : j = k := by omega
      subst this
      omega
def blanks3 : List UInt8 := [32, 9, 10]
def semi (t : Tok) : Bool := decide (t.kind = 5) && decide (t.text = [59])
/-- the parts before each semicolon, and where the rest begins -/
def cutGo (l : List UInt8) : List Tok → Nat → List (List UInt8) → Option (List (List UInt8) × Nat)
  | [], a, acc => some (acc, a)
  | t :: T, a, acc => if semi t then (if Lib.trimS ((l.drop a).take (t.at_ - a)) blanks3 = [] then none else cutGo l T (t.at_ + 1) (acc ++ [Lib.trimS ((l.drop a).take (t.at_ - a)) blanks3])) else cutGo l T a acc
def cutEnd (l : List UInt8) (x : List (List UInt8) × Nat) : List (List UInt8) := if Lib.trimS (l.drop x.2) blanks3 = [] then x.1 else x.1 ++ [Lib.trimS (l.drop x.2) blanks3]
def cutOf (l : List UInt8) (T : List Tok) : Option (List (List UInt8)) := (cutGo l T 0 []).map (cutEnd l)
theorem comes_lenC {l : List UInt8} {T : List Tok} (h : Comes_ l (.toks T)) : l.length ≤ 65536 := by
  rcases h with ⟨_, h⟩ | ⟨h, _⟩
  · cases h
  · exact h
end Go.Proofs.YtpmncgbpbcgfaaaGreatDoor

/-
  The parser's door Cut: the parts of a script.
-/
namespace Go.Proofs.YtpmncgbpbcgfaaaGreatDoor
open Go.RowKit
set_option linter.unusedVariables false
set_option linter.unusedSimpArgs false

theorem info_str : (Tryz.prog.info? 9).map (fun i => (i.zero, i.size, i.bytes)) = some (some (.string ⟨#[]⟩), 1, 16) := by kernel_rfl
def strCells (a : List UInt8) : List Value := [strV a]
theorem goodStr : Good (FlatR strCells) 1 := goodFlat (fun _ => rfl) fun a u hu => by simp [strCells, strV] at hu; rw [hu]; rfl
theorem results_tmp2 {P : Program} {fn : Func} {p q : Tmp} {v0 v1 : Value} (h : fn.results = #[.tmp p, .tmp q]) (tmps : Array Value) (w : World) (h0 : tmps.getD p undef = v0) (h1 : tmps.getD q undef = v1) :
    (results fn tmps).run P w = .ok (.tuple #[v0, v1]) w := by
  subst h0 h1
  simp [results, h]
theorem trim_call (s : ByteArray) (w : World) (hs : s.size ≤ 9223372036854775807) : Calls Tryz.prog 30 #[.string s, .string ⟨#[32, 9, 10]⟩] w fun e w' => e = .returned (.string ⟨(Lib.trimS s.data.toList blanks3).toArray⟩) ∧ Below w.heap.size w w' :=
  Tryz.strings_Trim_ascii s ⟨#[32, 9, 10]⟩ w hs (by decide) (by
    intro j b hb
    have : b ∈ ([32, 9, 10] : List UInt8) := List.mem_of_getElem? hb
    simp at this
    rcases this with rfl | rfl | rfl <;> decide)
/-- what Cut returns -/
def CutOut (l : List UInt8) (w : World) (e : Ending) (w' : World) : Res → Prop
  | .err i c => 0 < c ∧ e = .returned (.tuple #[.slice none 0 0, .int .i64 (c : Int)])
  | .toks T => match cutOf l T with
    | none => e = .returned (.tuple #[.slice none 0 0, .int .i64 1])
    | some ps => ∃ v, e = .returned (.tuple #[v, .int .i64 0]) ∧ LRep 1 (FlatR strCells) w' (Fp w.heap.size []) ps v
def CutPost (s : ByteArray) (w : World) (e : Ending) (w' : World) : Prop := ∃ r, Comes_ s.data.toList r ∧ CutOut s.data.toList w e w' r ∧ Below w.heap.size w w'
structure CutAt (w wr : World) (l : List UInt8) (T : List Tok) (k a : Nat) (acc : List (List UInt8)) (c7 c8 c24 : Value) : Prop where
  le : k ≤ T.length
  c8 : c8 = .int .i64 (a : Int)
  c24 : c24 = .int .i64 (k : Int)
  bel : Below w.heap.size w wr
  own : OwnL 1 9 (FlatR strCells) wr w.heap.size acc c7
  lo : a ≤ l.length
  hi : ∀ j (h : j < T.length), k ≤ j → a ≤ T[j].at_
  len : acc.length ≤ k
  go : cutGo l T 0 [] = cutGo l (T.drop k) a acc
set_option maxHeartbeats 8000000 in
set_option maxRecDepth 100000 in
theorem cut_call (s : ByteArray) (w : World) (ht : Tab w) : Calls Tryz.prog 13 #[.string s] w (CutPost s w) := by
  have HT := Lib.hid ht
  clear ht
  obtain ⟨i0', hi0', hz0, hz1, hz2⟩ := info_parts info_str
  go_enter Tryz.func13, Tryz.ntmps13
  go_wp2_with fail
  refine (tokens_call s w HT.out).mono ?_
  rintro e w1 ⟨r, hc, hout⟩
  have HC := Lib.hid hc
  clear hc HT
  rcases r with ⟨i, c⟩ | T
  · obtain ⟨rfl, hw1⟩ := hout
    have hcn := (comes_err HC.out).1
    have d1 : ((c : Int) != 0) = true := by rw [bne_iff_ne]; omega
    go_wp2_with fail
    refine bodyPost_ret (results_tmp2 Tryz.results13 _ _ rfl rfl) rfl ?_
    exact ⟨_, HC.out, ⟨hcn, rfl⟩, hw1⟩
  · obtain ⟨v, rfl, ho, hw1⟩ := hout
    obtain ⟨A, mm, cp, rfl⟩ := own_slice ho
    obtain rfl := own_len ho
    have HO := Lib.hid ho
    have hpos := comes_posC HC.out
    have HPO := Lib.hid hpos
    have hcl := comes_lenC HC.out
    have hTl : T.length ≤ 65536 := (comes_ok HC.out).2.1
    have hsz2 : s.data.toList.length = s.size := by rw [Array.length_toList]; rfl
    clear ho hpos
    go_wp2_with fail
    go_loopw [7, 8, 24] (fun c7 c8 c24 wr => ∃ k a acc, CutAt w1 wr s.data.toList T k a acc c7 c8 c24) (fun _ _ c24 _ => T.length - (intOf c24).toNat)
    case atStart => exact ⟨0, 0, [], ⟨Nat.zero_le _, rfl, rfl, Below.refl _ _, OwnL.nil _ _, Nat.zero_le _, fun _ _ _ => Nat.zero_le _, Nat.le_refl _, rfl⟩⟩
    case round =>
      obtain ⟨k, a, acc, ⟨hk, rfl, rfl, hb, hown, hlo, hhi, hln, hgo⟩⟩ := hrel
      by_cases hlt : k < T.length
      · obtain ⟨g, rfl⟩ := own_addr HO.out (by omega)
        obtain ⟨t0, t1, t2, t3⟩ := tok_cells HO.out (g := g) rfl hlt
        have hgl : g < w1.heap.size := World.block_lt_of_cell? w1 _ t0
        replace t0 := (hb.cell (p := ⟨g, k * 4, none⟩) hgl).trans t0
        replace t1 := (hb.cell (p := ⟨g, k * 4 + 1, none⟩) hgl).trans t1
        replace t2 := (hb.cell (p := ⟨g, k * 4 + 2, none⟩) hgl).trans t2
        replace t3 := (hb.cell (p := ⟨g, k * 4 + 3, none⟩) hgl).trans t3
        have hat1 : a ≤ T[k].at_ := hhi k hlt (Nat.le_refl _)
        have hat2 : T[k].at_ < s.data.toList.length := (HPO.out k hlt).2.1
        have hup : ∀ j (h : j < T.length), k + 1 ≤ j → T[k].at_ + 1 ≤ T[j].at_ := fun j h hj => pos_lt HPO.out k j h (by omega)
        have HUP := Lib.hid hup
        have HHI := Lib.hid hhi
        have hdr : T.drop k = T[k] :: T.drop (k + 1) := List.drop_eq_getElem_cons hlt
        have HGO : Hid (cutGo s.data.toList T 0 [] = cutGo s.data.toList (T[k] :: T.drop (k + 1)) a acc) := Lib.hid (by rw [← hdr]; exact hgo)
        have HOW := Lib.hid hown
        have HVV := Lib.hid hown.blk
        obtain ⟨A8, c8, rfl⟩ := hown.form
        clear hup hhi hdr hgo hown
        generalize T[k] = t at t0 t1 t2 t3 hat1 hat2 HUP HGO
        have c2 : (k : Int) < (T.length : Int) := by omega
        have c3 : (0 : Int) ≤ (k : Int) := by omega
        have d1 : decide ((k : Int) < (T.length : Int)) = true := decide_eq_true c2
        have e1 : IntKind.i64.wrap ((k : Int) + 1) = (k : Int) + 1 := by rw [IntWalk.i64_in _ (by omega)]
        have e2 : IntKind.i64.wrap ((t.at_ : Int) + 1) = (t.at_ : Int) + 1 := by rw [IntWalk.i64_in _ (by omega)]
        go_upto_region 9 with (fail)
        refine name_alloc (K := Code.wp _ _ _ _) fun w2 hX hw2 hz2' => ?_
        have x0 := hX.cell 0 rfl
        have x1 := hX.cell 1 rfl
        have x3 := hX.cell 3 rfl
        have hb2 := hb.trans (hw2.mono hb.size)
        replace HOW := Lib.hid (HOW.out.below goodStr hw2)
        clear t0 t1 t2 t3 hw2 hb
        by_cases hk5 : t.kind = 5
        · have k5 : ((t.kind : Int) != 5) = false := by rw [bne_eq_false_iff_eq]; omega
          by_cases hts : t.text = [59]
          · have HSE : Hid (semi t = true) := Lib.hid (by unfold semi; simp [hk5, hts])
            have hts2 : (⟨t.text.toArray⟩ : ByteArray) = ⟨#[59]⟩ := by rw [hts]
            rw [hts2] at x1
            have hsl : a ≤ t.at_ ∧ t.at_ ≤ s.size := ⟨hat1, by omega⟩
            have HEX : Hid ((s.extract a t.at_).data.toList = (s.data.toList.drop a).take (t.at_ - a)) := Lib.hid (by rw [extract_bytes, mk_list])
            go_wp2_with fail
            refine (trim_call (s.extract a t.at_) w2 (by rw [ByteArray.size_extract]; omega)).mono ?_
            rintro e w3 ⟨rfl, hw3⟩
            rw [HEX.out]
            have hb3 := hb2.trans (hw3.mono hb2.size)
            have hX3 := hX.below hw3
            have HOW3 := Lib.hid (HOW.out.below goodStr hw3)
            have h23 := hw3.size
            have hb1s := hb2.size
            generalize hpart : Lib.trimS ((s.data.toList.drop a).take (t.at_ - a)) blanks3 = part
            have HPA := Lib.hid hpart
            clear hpart hw3 hX x0 x1 x3 HOW HEX
            by_cases hpe : part = []
            · have hpb : (⟨part.toArray⟩ : ByteArray) = ⟨#[]⟩ := by rw [hpe]
              rw [hpb]
              have HNO : Hid (cutOf s.data.toList T = none) := Lib.hid (by
                unfold cutOf
                rw [HGO.out]
                show Option.map _ (if semi t = true then _ else _) = _
                rw [HSE.out, if_pos rfl, HPA.out, if_pos hpe]
                rfl)
              go_wp2_with fail
              refine bodyPost_ret (results_tmp2 Tryz.results13 _ _ rfl rfl) rfl ?_
              exact ⟨_, HC.out, (by unfold CutOut; dsimp only; rw [HNO.out]; rfl), hw1.trans (hb3.mono hw1.size)⟩
            · have hpb : part.isEmpty = false := by cases part; exact absurd rfl hpe; rfl
              have HGO2 : Hid (cutGo s.data.toList T 0 [] = cutGo s.data.toList (T.drop (k + 1)) (t.at_ + 1) (acc ++ [part])) := Lib.hid (by
                rw [HGO.out]
                show (if semi t = true then _ else _) = _
                rw [HSE.out, if_pos rfl, HPA.out, if_neg hpe])
              have y3 := hX3.cell 3 rfl
              go_wp2_with (at_builtin; refine push_own goodStr rfl (.tmp 44) (.tmp 46) 72 rfl w1.heap.size 9 i0' _ 16 Tryz.underlying72 hi0' hz0 hz1 hz2 rfl (by omega) (by omega) (.slice A8 acc.length c8) acc rfl (HOW3.out.below goodStr (below1 w3 _)) w3.heap.size 1 [.string ⟨part.toArray⟩] part rfl (Blk.new w3 _ _) ?hr ?hl ?hb ?_)
              case hr => rfl
              case hl => omega
              case hb => simp; omega
              intro gg cap w5 hO5 hg5 hgg5
              have hb5 : Below w1.heap.size w1 w5 := (hb3.alloc hb3.size _).grown hg5 (by simp; omega) (fun q hq => (HVV.out q hq).1)
              have hX5 := ((hX3.alloc (.cells [Value.string ⟨part.toArray⟩].toArray 9)).push hg5 (fun e => by have := (HVV.out _ e).2; omega))
              have HO5 := Lib.hid hO5
              clear hO5 hg5 hgg5 hX3 y3 HOW3 hpb
              have y3 := hX5.cell 3 rfl
              go_wp2_with fail
              go_roundw
              case rel => exact ⟨k + 1, t.at_ + 1, acc ++ [part], ⟨by omega, by go_num, by go_num, hb5, by simpa using HO5.out, by omega, fun j h hj => HUP.out j h hj, by simp; omega, HGO2.out⟩⟩
              case measure => simp [intOf]; omega
          · have HSE : Hid (semi t = false) := Lib.hid (by unfold semi; simp [hts])
            have hpb : (t.text == [59]) = false := beq_eq_false_iff_ne.2 hts
            have HGO2 : Hid (cutGo s.data.toList T 0 [] = cutGo s.data.toList (T.drop (k + 1)) a acc) := Lib.hid (by rw [HGO.out]; show (if semi t = true then _ else _) = _; rw [HSE.out]; rfl)
            go_wp2_with fail
            go_roundw
            case rel => exact ⟨k + 1, a, acc, ⟨by omega, rfl, by go_num, hb2, HOW.out, hlo, fun j h hj => HHI.out j h (by omega), by omega, HGO2.out⟩⟩
            case measure => simp [intOf]; omega
        · have k5 : ((t.kind : Int) != 5) = true := by rw [bne_iff_ne]; omega
          have HSE : Hid (semi t = false) := Lib.hid (by unfold semi; simp [hk5])
          have HGO2 : Hid (cutGo s.data.toList T 0 [] = cutGo s.data.toList (T.drop (k + 1)) a acc) := Lib.hid (by rw [HGO.out]; show (if semi t = true then _ else _) = _; rw [HSE.out]; rfl)
          go_wp2_with fail
          go_roundw
          case rel => exact ⟨k + 1, a, acc, ⟨by omega, rfl, by go_num, hb2, HOW.out, hlo, fun j h hj => HHI.out j h (by omega), by omega, HGO2.out⟩⟩
          case measure => simp [intOf]; omega
      · obtain rfl : k = T.length := by omega
        have d1 : decide ((T.length : Int) < (T.length : Int)) = false := decide_eq_false (by omega)
        have HGO2 : Hid (cutOf s.data.toList T = some (cutEnd s.data.toList (acc, a))) := Lib.hid (by
          unfold cutOf
          rw [hgo, List.drop_length]
          rfl)
        have HOW := Lib.hid hown
        have HVV := Lib.hid hown.blk
        obtain ⟨A8, c8, rfl⟩ := hown.form
        have hsl : a ≤ s.size := by omega
        have HEX : Hid ((s.extract a s.size).data.toList = s.data.toList.drop a) := Lib.hid (by rw [extract_bytes, mk_list, List.take_of_length_le]; rw [List.length_drop]; omega)
        clear hgo hown hhi
        go_wp2_with fail
        refine (trim_call (s.extract a s.size) wr (by rw [ByteArray.size_extract]; omega)).mono ?_
        rintro e w3 ⟨rfl, hw3⟩
        rw [HEX.out]
        have hb3 := hb.trans (hw3.mono hb.size)
        have HOW3 := Lib.hid (HOW.out.below goodStr hw3)
        have h23 := hw3.size
        have hb1s := hb.size
        generalize hpart : Lib.trimS (s.data.toList.drop a) blanks3 = part
        have HPA := Lib.hid hpart
        clear hpart hw3 HOW HEX hb
        by_cases hpe : part = []
        · have hpb : (⟨part.toArray⟩ : ByteArray) = ⟨#[]⟩ := by rw [hpe]
          rw [hpb]
          have HNO : Hid (cutOf s.data.toList T = some acc) := Lib.hid (by rw [HGO2.out]; unfold cutEnd; rw [HPA.out, if_pos hpe])
          go_wp2_with fail
          refine bodyPost_ret (results_tmp2 Tryz.results13 _ _ rfl rfl) rfl ?_
          exact ⟨_, HC.out, (by unfold CutOut; dsimp only; rw [HNO.out]; exact ⟨_, rfl, (HOW3.out.done goodStr).mono goodStr fun b hb _ => ⟨Nat.le_trans hw1.size hb, by simp⟩⟩), hw1.trans (hb3.mono hw1.size)⟩
        · have hpb : part.isEmpty = false := by cases part; exact absurd rfl hpe; rfl
          have HNO : Hid (cutOf s.data.toList T = some (acc ++ [part])) := Lib.hid (by rw [HGO2.out]; unfold cutEnd; rw [HPA.out, if_neg hpe])
          go_wp2_with (at_builtin; refine push_own goodStr rfl (.tmp 58) (.tmp 60) 72 rfl w1.heap.size 9 i0' _ 16 Tryz.underlying72 hi0' hz0 hz1 hz2 rfl (by omega) (by omega) (.slice A8 acc.length c8) acc rfl (HOW3.out.below goodStr (below1 w3 _)) w3.heap.size 1 [.string ⟨part.toArray⟩] part rfl (Blk.new w3 _ _) ?hr ?hl ?hb ?_)
          case hr => rfl
          case hl => omega
          case hb => simp; omega
          intro gg cap w5 hO5 hg5 hgg5
          have hb5 : Below w1.heap.size w1 w5 := (hb3.alloc hb3.size _).grown hg5 (by simp; omega) (fun q hq => (HVV.out q hq).1)
          have HO5 := Lib.hid hO5
          clear hO5 hg5 hgg5 HOW3 hpb
          go_wp2_with fail
          refine bodyPost_ret (results_tmp2 Tryz.results13 _ _ rfl rfl) rfl ?_
          exact ⟨_, HC.out, (by unfold CutOut; dsimp only; rw [HNO.out]; exact ⟨_, rfl, (HO5.out.done goodStr).mono goodStr fun b hb _ => ⟨Nat.le_trans hw1.size hb, by simp⟩⟩), hw1.trans (hb5.mono hw1.size)⟩
end Go.Proofs.YtpmncgbpbcgfaaaGreatDoor
