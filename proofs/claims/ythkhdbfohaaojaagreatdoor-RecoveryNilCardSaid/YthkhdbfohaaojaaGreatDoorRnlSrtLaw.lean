/-
  slices.Sorted(maps.Keys(m)) at the seat's own program, as an oracle.
-/
import Derived.Test.YthkhdbfohaaojaaGreatDoorAyRun
import Derived.Test.YthkhdbfohaaojaaGreatDoorAxSort
import Derived.Test.YthkhdbfohaaojaaGreatDoorSrt
set_option linter.unusedVariables false
namespace Go.Proofs.YthkhdbfohaaojaaGreatDoor.Ax
open Go Go.RowKit Go.Maps Go.Sort
theorem srt_sorts (m : Nat) : AnyZ.SortsIn Tryz.prog Tryz.sorted254_ren Fence.wide m :=
  ⟨fun blk off cap ss W hH hblk hsz => callsIn_wide.2 (AnyM.slices_Sort_string Tryz.sort315 blk off cap ss W hH hblk hsz),
   fun p cap W => callsIn_wide.2 (AnyM.slices_Sort_string_none Tryz.sort315 p cap W)⟩
set_option maxHeartbeats 1000000 in
theorem srt_law : SortLaw Tryz.prog 254 358 9 := by
  intro b nn Bm D0 R w hBm hcell hown hmax hbytes
  have hseq : SeqGives Fence.wide 2 Tryz.prog 358 #[.pointer (some ⟨Bm, 0, none⟩)] Go.Proofs.encStr (fun ss => ss.Perm (strKeys D0)) (Maps.size D0) w :=
    AnyZ.keys_gives (ρ := Tryz.keys255_ren) { Tryz.keys255 with } Fence.wide _ trivial rfl (by omega) Bm b nn D0 _ hBm hcell hown
  have cS := AnyZ.sorted_in Tryz.sorted254 Fence.wide 5 trivial trivial trivial trivial rfl (by omega) (srt_sorts _) (enters_of Tryz.func315 (by kernel_rfl) rfl) 358 #[.pointer (some ⟨Bm, 0, none⟩)] trivial (enters_of Tryz.func358 (by kernel_rfl) rfl) _ _ hmax hbytes w hseq
  exact callsIn_wide.1 cS
theorem srt_ok : CallOK Tryz.prog (sortO 254 358 9) := sortO_ok ⟨Tryz.f254, _, Tryz.func254, by decide +kernel, rfl⟩ Tryz.underlying9 srt_law
end Go.Proofs.YthkhdbfohaaojaaGreatDoor.Ax
