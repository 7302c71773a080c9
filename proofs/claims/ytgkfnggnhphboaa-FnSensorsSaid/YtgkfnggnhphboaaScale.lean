/- Contracts and lemmas for the proofs of this seat: Scale. -/
import Derived.Test.YtgkfnggnhphboaaBase
import Derived.Test.YtgkfnggnhphboaaNum
import Derived.Test.YtgkfnggnhphboaaIv
import Derived.Test.YtgkfnggnhphboaaIv2
namespace Go.Proofs.Ytgkfnggnhphboaa
open Go.RowKit
set_option maxHeartbeats 2000000
set_option linter.unusedVariables false
set_option linter.unusedSimpArgs false

attribute [local go_sem] lt_2 lt_3 lt_4 lt_5 lt_6

theorem mul_bd {a k : Int} (A K : Nat) (h1 : -(A : Int) ≤ a ∧ a ≤ A) (h2 : -(K : Int) ≤ k ∧ k ≤ K) : -((A * K : Nat) : Int) ≤ a * k ∧ a * k ≤ ((A * K : Nat) : Int) := by
  have e := Int.natAbs_mul a k
  have h := Nat.mul_le_mul (show a.natAbs ≤ A by omega) (show k.natAbs ≤ K by omega)
  rw [← e] at h
  omega

end Go.Proofs.Ytgkfnggnhphboaa
