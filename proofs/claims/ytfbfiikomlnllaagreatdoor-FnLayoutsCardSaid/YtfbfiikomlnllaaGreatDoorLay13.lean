/- Contracts and lemmas for the proofs of this seat: Lay13. -/
import Derived.Test.YtfbfiikomlnllaaGreatDoorBase
import Derived.Test.YtfbfiikomlnllaaGreatDoorNum
import Derived.Test.YtfbfiikomlnllaaGreatDoorIv
import Derived.Test.YtfbfiikomlnllaaGreatDoorIv2
import Derived.Test.YtfbfiikomlnllaaGreatDoorDiv
import Derived.Test.YtfbfiikomlnllaaGreatDoorRoot
import Derived.Test.YtfbfiikomlnllaaGreatDoorEn
import Derived.Test.YtfbfiikomlnllaaGreatDoorSeg
import Derived.Test.YtfbfiikomlnllaaGreatDoorList
import Derived.Test.YtfbfiikomlnllaaGreatDoorLay
import Derived.Test.YtfbfiikomlnllaaGreatDoorLay2
import Derived.Test.YtfbfiikomlnllaaGreatDoorLay3
import Derived.Test.YtfbfiikomlnllaaGreatDoorLay4
import Derived.Test.YtfbfiikomlnllaaGreatDoorLay12
import Derived.Lib.Hide
import Derived.BigQuiet
import Derived.Deep.QuietTactic
import Derived.Deep.OwnRows
import Derived.Deep.LoopGhost
import Derived.Deep.RegionHeld3
import Derived.Deep.DeepCutAuto
import Derived.StillTailTactics
import Derived.Deep.AppendLies
import Derived.Deep.DrawnRows
import Derived.Outline
namespace Go.Proofs.YtfbfiikomlnllaaGreatDoor
open Go.RowKit Go.Deep
set_option maxHeartbeats 2000000
set_option linter.unusedVariables false
set_option linter.unusedSimpArgs false

attribute [local go_sem] lt_2 lt_3 lt_4 lt_5 lt_6
def rowI (f : Nat → Int) (m : Nat) : List Int := (List.range m).map f
theorem rowI_len (f : Nat → Int) (m : Nat) : (rowI f m).length = m := by simp [rowI]
theorem rowI_get (f : Nat → Int) (m i : Nat) (h : i < m) : (rowI f m).getD i 0 = f i := by simp [rowI, List.getD_eq_getElem?_getD, h]
theorem ints_of_own {w : World} {base : Nat} {t : TypeId} {g c m : Nat} {f : Nat → Int} (h : w.ownsRow base t 1 (.slice (some ⟨g, 0, none⟩) m c) m (rowV f m)) (hm : m ≤ maxLen) : Ints .i64 w (some ⟨g, 0, none⟩) m (rowI f m) := by
  refine ⟨rowI_len f m, hm, fun _ => ⟨g, 0, rfl, fun i hi => ?_⟩⟩
  rw [Nat.zero_add, h.cellAt i (by omega), rowV_get f m i hi, rowI_get f m i hi]

end Go.Proofs.YtfbfiikomlnllaaGreatDoor
