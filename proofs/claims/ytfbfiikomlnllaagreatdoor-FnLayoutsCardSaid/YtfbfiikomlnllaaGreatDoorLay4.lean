/- Contracts and lemmas for the proofs of this seat: Lay4. -/
import Derived.Test.YtfbfiikomlnllaaGreatDoorBase
import Derived.Test.YtfbfiikomlnllaaGreatDoorNum
import Derived.Test.YtfbfiikomlnllaaGreatDoorIv
import Derived.Test.YtfbfiikomlnllaaGreatDoorIv2
import Derived.Test.YtfbfiikomlnllaaGreatDoorDiv
import Derived.Test.YtfbfiikomlnllaaGreatDoorRoot
import Derived.Test.YtfbfiikomlnllaaGreatDoorEn
import Derived.Test.YtfbfiikomlnllaaGreatDoorSeg
import Derived.Test.YtfbfiikomlnllaaGreatDoorList
import Derived.Test.YtfbfiikomlnllaaGreatDoorLay
import Derived.Test.YtfbfiikomlnllaaGreatDoorLay2
import Derived.Test.YtfbfiikomlnllaaGreatDoorLay3
import Derived.Lib.Hide
import Derived.BigQuiet
import Derived.Deep.QuietTactic
import Derived.Deep.OwnRows
import Derived.Deep.LoopGhost
import Derived.Deep.RegionHeld3
import Derived.Deep.DeepCutAuto
import Derived.StillTailTactics
import Derived.Deep.AppendLies
import Derived.Deep.DrawnRows
import Derived.Outline
namespace Go.Proofs.YtfbfiikomlnllaaGreatDoor
open Go.RowKit Go.Deep
set_option maxHeartbeats 2000000
set_option linter.unusedVariables false
set_option linter.unusedSimpArgs false

attribute [local go_sem] lt_2 lt_3 lt_4 lt_5 lt_6
def isPos (zs : List Seg) (x : Int) : Bool := inB x 0 (totN zs - 1)
theorem emod_two {a b : Int} (hb : 0 < b) : (a.tmod b + b) % b = a % b := by
  have h1 : a.tmod b = a - b * a.tdiv b := by have := Int.mul_tdiv_add_tmod a b; omega
  have h2 : -b < a.tmod b := Int.lt_tmod_of_pos a hb
  have h3 : a.tmod b < b := Int.tmod_lt_of_pos a hb
  rw [h1]
  have e : a - b * a.tdiv b + b = a + b * (1 - a.tdiv b) := by rw [Int.mul_sub]; omega
  rw [e, Int.add_mul_emod_self_left]

end Go.Proofs.YtfbfiikomlnllaaGreatDoor
