/- Contracts and lemmas for the proofs of this seat: Div. -/
import Derived.Test.YtfbfiikomlnllaaGreatDoorBase
import Derived.Test.YtfbfiikomlnllaaGreatDoorNum
namespace Go.Proofs.YtfbfiikomlnllaaGreatDoor
open Go.RowKit
set_option maxHeartbeats 2000000
set_option linter.unusedVariables false
set_option linter.unusedSimpArgs false

theorem wrap64_in {x : Int} (h1 : -9000000000000000000 ≤ x) (h2 : x ≤ 9000000000000000000) : wrap64 x = x := by unfold wrap64; omega
theorem tdiv_bd {a b M : Int} (h1 : -M ≤ a) (h2 : a ≤ M) : -M ≤ a.tdiv b ∧ a.tdiv b ≤ M := by
  have h := Int.natAbs_tdiv a b
  have h3 := Nat.div_le_self a.natAbs b.natAbs
  have h4 : ((a.tdiv b).natAbs : Int) ≤ a.natAbs := by rw [h]; exact_mod_cast h3
  omega
def floorG (a b : Int) : Int := if a.tmod b = 0 ∨ (a < 0 ↔ b < 0) then a.tdiv b else a.tdiv b - 1
def ceilG (a b : Int) : Int := -floorG (-a) b
theorem floorG_bd {a b M : Int} (h1 : -M ≤ a) (h2 : a ≤ M) : -M - 1 ≤ floorG a b ∧ floorG a b ≤ M := by
  have h := tdiv_bd (b := b) h1 h2
  unfold floorG; split <;> omega
def divDown (a b : Int) : Int × Int := if isVal a = true ∧ isVal b = true then (if b = 0 then (0, 5) else (floorG a b, 0)) else (0, 2)
def divUp (a b : Int) : Int × Int := if isVal a = true ∧ isVal b = true then (if b = 0 then (0, 5) else (ceilG a b, 0)) else (0, 2)

end Go.Proofs.YtfbfiikomlnllaaGreatDoor
