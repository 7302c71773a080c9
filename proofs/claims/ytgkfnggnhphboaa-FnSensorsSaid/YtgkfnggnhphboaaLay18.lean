/- Contracts and lemmas for the proofs of this seat: Lay18. -/
import Derived.Test.YtgkfnggnhphboaaBase
import Derived.Test.YtgkfnggnhphboaaNum
import Derived.Test.YtgkfnggnhphboaaIv
import Derived.Test.YtgkfnggnhphboaaIv2
import Derived.Test.YtgkfnggnhphboaaDiv
import Derived.Test.YtgkfnggnhphboaaRoot
import Derived.Test.YtgkfnggnhphboaaEn
import Derived.Test.YtgkfnggnhphboaaSeg
import Derived.Test.YtgkfnggnhphboaaList
import Derived.Test.YtgkfnggnhphboaaLay
import Derived.Test.YtgkfnggnhphboaaLay2
import Derived.Test.YtgkfnggnhphboaaLay3
import Derived.Test.YtgkfnggnhphboaaLay12
import Derived.Test.YtgkfnggnhphboaaLay13
import Derived.Test.YtgkfnggnhphboaaLay15
import Derived.Test.YtgkfnggnhphboaaLay16
import Derived.Test.YtgkfnggnhphboaaLay17
import Derived.Lib.Hide
import Derived.BigQuiet
import Derived.Deep.QuietTactic
import Derived.Deep.OwnRows
import Derived.Deep.LoopGhost
import Derived.Deep.RegionHeld3
import Derived.Deep.DeepCutAuto
import Derived.StillTailTactics
import Derived.Deep.AppendLies
import Derived.Deep.DrawnRows
import Derived.Outline
namespace Go.Proofs.Ytgkfnggnhphboaa
open Go.RowKit Go.Deep
set_option maxHeartbeats 2000000
set_option linter.unusedVariables false
set_option linter.unusedSimpArgs false

/-- a slice of m elements in new memory, and a code -/
def ResQ (t : TypeId) (sz m : Nat) (f : Nat → Int) (code : Int) (w : World) (e : Ending) (w' : World) : Prop :=
  ∃ q c, e = .returned (.tuple #[.slice q m c, .int .i64 code]) ∧ OwnQ t sz w.heap.size w' q m f ∧ Below w.heap.size w w'
def stM (zs : List Seg) (n : Nat) : Nat := if layOk zs = true then n else 0
def stC (zs : List Seg) : Int := if layOk zs = true then 0 else 1
theorem Starts.res {zs : List Seg} {t : TypeId} {n : Nat} {w : World} {e : Ending} {w' : World} (h : Starts zs t n w e w') : ResQ t 1 (stM zs n) (preN zs) (stC zs) w e w' := by
  obtain ⟨q, c, h1, hb⟩ := h
  unfold stM stC
  by_cases hl : layOk zs = true
  · rw [if_pos hl] at h1
    rw [if_pos hl, if_pos hl]
    exact ⟨q, c, h1.1, h1.2, hb⟩
  · rw [if_neg hl] at h1
    rw [if_neg hl, if_neg hl]
    exact ⟨none, 0, h1, OwnQ.nil _ _ _ _ _, hb⟩

theorem i_SegStarts (p : Option Addr) (n cap : Nat) (zs : List Seg) (w : World) (hin : Segs w p n zs) (hn : n ≤ 1048576) : Calls Try.prog 19 #[.agg #[.slice p n cap]] w (ResQ 2 1 (stM zs n) (preN zs) (stC zs) w) :=
  (i_SegmentStarts p n cap zs w hin hn).mono fun _ _ h => h.res

end Go.Proofs.Ytgkfnggnhphboaa
