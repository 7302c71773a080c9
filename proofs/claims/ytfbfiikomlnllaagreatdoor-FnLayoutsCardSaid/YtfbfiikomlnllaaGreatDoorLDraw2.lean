/- Contracts and lemmas for the proofs of this seat: LDraw2. -/
import Derived.Test.YtfbfiikomlnllaaGreatDoorLDraw
import Derived.Test.YtfbfiikomlnllaaGreatDoorDRow
import Derived.Test.YtfbfiikomlnllaaGreatDoorDraw3
import Derived.Test.YtfbfiikomlnllaaGreatDoorDraw2
import Derived.Test.YtfbfiikomlnllaaGreatDoorDraw
import Derived.Test.YtfbfiikomlnllaaGreatDoorBase
import Derived.Test.YtfbfiikomlnllaaGreatDoorNum
import Derived.Test.YtfbfiikomlnllaaGreatDoorIv
import Derived.Test.YtfbfiikomlnllaaGreatDoorIv2
import Derived.Test.YtfbfiikomlnllaaGreatDoorRoot
import Derived.Test.YtfbfiikomlnllaaGreatDoorEn
import Derived.Test.YtfbfiikomlnllaaGreatDoorSeg
import Derived.Test.YtfbfiikomlnllaaGreatDoorList
import Derived.Test.YtfbfiikomlnllaaGreatDoorLay
import Derived.Test.YtfbfiikomlnllaaGreatDoorLay2
import Derived.Test.YtfbfiikomlnllaaGreatDoorLay3
import Derived.Lib.Hide
import Derived.BigQuiet
import Derived.Deep.QuietTactic
import Derived.Deep.OwnRows
import Derived.Deep.LoopGhost
import Derived.OneCell
import Derived.Lib.SmallJoins
import Derived.StillTailTactics
import Derived.RangeFuncBox
import Derived.Deep.RegionHeld3
import Derived.Deep.DeepCutAuto
namespace Go.Proofs.YtfbfiikomlnllaaGreatDoor
open Go.RowKit Go.Deep
set_option maxHeartbeats 2000000
set_option linter.unusedVariables false
set_option linter.unusedSimpArgs false

theorem Segs.only {b : Nat} {w w' : World} {p : Option Addr} {n : Nat} {zs : List Seg} (h : Segs w p n zs) (hO : Only b w w') (hne : 0 < n → ∀ g o, p = some ⟨g, o, none⟩ → g ≠ b) : Segs w' p n zs := by
  refine ⟨h.1, h.2.1, fun hp => ?_⟩
  obtain ⟨g, off, e, hl, hc⟩ := h.2.2 hp
  exact ⟨g, off, e, Nat.lt_of_lt_of_le hl hO.size, fun i hi => (hc i hi).keep (hO.block g hl (hne hp g off e))⟩

end Go.Proofs.YtfbfiikomlnllaaGreatDoor
