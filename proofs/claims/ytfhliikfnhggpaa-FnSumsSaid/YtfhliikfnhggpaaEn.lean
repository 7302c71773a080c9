/- Contracts and lemmas for the proofs of this seat: En. -/
import Derived.Test.YtfhliikfnhggpaaBase
import Derived.Test.YtfhliikfnhggpaaNum
import Derived.Test.YtfhliikfnhggpaaIv
import Derived.Test.YtfhliikfnhggpaaIv2
namespace Go.Proofs.Ytfhliikfnhggpaa
open Go.RowKit
set_option maxHeartbeats 2000000
set_option linter.unusedVariables false
set_option linter.unusedSimpArgs false

attribute [local go_sem] lt_2 lt_3 lt_4 lt_5 lt_6
def enOfSpeed (v : Int) : Int × Int := if inB v 0 100000 = true then (v * v, 0) else (0, 2)
def isEn (a b : Int) : Bool := isIv a b && (decide (0 ≤ a) && decide (b ≤ 10000000000))
theorem isEn_iff {a b : Int} : isEn a b = true ↔ 0 ≤ a ∧ a ≤ b ∧ b ≤ 10000000000 := by simp [isEn, isIv_iff]; omega
theorem sq100 {v : Int} (h : 0 ≤ v ∧ v ≤ 100000) : 0 ≤ v * v ∧ v * v ≤ 10000000000 := ⟨Int.mul_nonneg h.1 h.1, by have := Int.mul_le_mul h.2 h.2 h.1 (by omega : (0 : Int) ≤ 100000); omega⟩

end Go.Proofs.Ytfhliikfnhggpaa
