/- Contracts and lemmas for the proofs of this seat: Draw4. -/
import Derived.Test.YtgkfnggnhphboaaDraw3
import Derived.Test.YtgkfnggnhphboaaDraw2
import Derived.Test.YtgkfnggnhphboaaDraw
import Derived.Test.YtgkfnggnhphboaaBase
import Derived.Test.YtgkfnggnhphboaaNum
import Derived.Test.YtgkfnggnhphboaaIv
import Derived.Test.YtgkfnggnhphboaaIv2
import Derived.Test.YtgkfnggnhphboaaRoot
import Derived.Test.YtgkfnggnhphboaaEn
import Derived.Test.YtgkfnggnhphboaaEn2
import Derived.Test.YtgkfnggnhphboaaSeg
import Derived.Test.YtgkfnggnhphboaaStop
import Derived.Test.YtgkfnggnhphboaaList
import Derived.Lib.Hide
import Derived.BigQuiet
import Derived.Deep.QuietTactic
import Derived.Deep.OwnRows
import Derived.Deep.LoopGhost
import Derived.OneCell
import Derived.Lib.SmallJoins
import Derived.StillTailTactics
import Derived.RangeFuncBox
import Derived.Deep.RegionHeld3
import Derived.Deep.DeepCutAuto
namespace Go.Proofs.Ytgkfnggnhphboaa
open Go.RowKit Go.Deep
set_option maxHeartbeats 2000000
set_option linter.unusedVariables false
set_option linter.unusedSimpArgs false

attribute [local go_sem] fld_lo fld_hi
theorem ret_ivB {P : Program} {fn : Func} {R : Ending → World → Prop} {a : Act} {w : World} (h : ∃ x y : Int, (results fn a.tmps).run P w = .ok (ivV x y) w ∧ R (.returned (ivV x y)) w) (hd : a.defers = []) : bodyPost P fn R .ret a w := ret_ivD h hd
def SomeIv (w : World) (e : Ending) (w' : World) : Prop := ∃ x y : Int, e = .returned (ivV x y) ∧ Below w.heap.size w w'
def SomeB (w : World) (e : Ending) (w' : World) : Prop := ∃ c : Bool, e = .returned (.bool c) ∧ Below w.heap.size w w'
theorem SomeB.of {P : Program} {f : FuncId} {args : Array Value} {w : World} {c : Bool} (h : Calls P f args w fun e w' => e = .returned (.bool c) ∧ Below w.heap.size w w') : Calls P f args w (SomeB w) :=
  h.mono fun _ _ ⟨he, hb⟩ => ⟨c, he, hb⟩

set_option maxRecDepth 100000 in
theorem s_l06Change_any (k n r c d e f : Int) (w : World) : Calls Try.prog 118 #[segV k n r c d e f] w (SomeIv w) := by
  go_enter Try.func118, Try.ntmps118
  go_wp2
  refine ret_ivD ?_ rfl
  repeat apply Exists.intro
  constructor
  focus
    simp [results, Try.results118, go_sem, *]
    exact ⟨rfl, rfl⟩
  exact ⟨_, _, rfl, by repeat (first | exact Below.refl _ _ | refine balloc ?_ _ | refine Below.drew ?_ | refine bdrewN ?_ _ | refine bto ?_ (Own.below (by assumption)) | refine bset ?_ (by first | (simp; done) | (simp; omega) | exact Own.le_w (by assumption) (by first | (simp; done) | (simp; omega))) _)⟩

end Go.Proofs.Ytgkfnggnhphboaa
