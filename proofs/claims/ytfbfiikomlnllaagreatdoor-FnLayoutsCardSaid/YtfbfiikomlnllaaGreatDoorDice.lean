/- Contracts and lemmas for the proofs of this seat: Dice. -/
import Derived.Test.YtfbfiikomlnllaaGreatDoorLawKit
import Derived.Test.YtfbfiikomlnllaaGreatDoorDraw
import Derived.Test.YtfbfiikomlnllaaGreatDoorBase
import Derived.Test.YtfbfiikomlnllaaGreatDoorNum
import Derived.Test.YtfbfiikomlnllaaGreatDoorList
import Derived.Lib.Hide
import Derived.BigQuiet
import Derived.Deep.QuietTactic
import Derived.Deep.OwnRows
import Derived.Deep.LoopGhost
import Derived.OneCell
import Derived.Lib.SmallJoins
import Derived.StillTailTactics
import Derived.RangeFuncBox
import Derived.Lib.VarintBits
namespace Go.Proofs.YtfbfiikomlnllaaGreatDoor
open Go.RowKit Go.Deep
set_option maxHeartbeats 2000000
set_option linter.unusedVariables false
set_option linter.unusedSimpArgs false

theorem Lw.only {w W W' : World} {ks : List (Nat × List Int)} {d : Nat} (h : Lw w W ks) (hO : Only d W W') (hd : w.heap.size ≤ d) (hne : ∀ q ∈ ks, q.1 ≠ d) : Lw w W' ks :=
  ⟨hO.below h.own.below hd, fun q hq => by
    have hB := h.blk q hq
    have hk := hO.box (hne q hq) hB.lt
    exact ⟨Nat.lt_of_lt_of_le hB.lt hO.size, fun i x hi => (hk.1 i).trans (hB.cell i x hi), fun i hi => (hk.2 i).trans (hB.free i hi)⟩⟩

end Go.Proofs.YtfbfiikomlnllaaGreatDoor
