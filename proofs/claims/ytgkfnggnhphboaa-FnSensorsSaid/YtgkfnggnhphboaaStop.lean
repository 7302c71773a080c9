/- Contracts and lemmas for the proofs of this seat: Stop. -/
import Derived.Test.YtgkfnggnhphboaaBase
import Derived.Test.YtgkfnggnhphboaaNum
import Derived.Test.YtgkfnggnhphboaaIv
import Derived.Test.YtgkfnggnhphboaaIv2
import Derived.Test.YtgkfnggnhphboaaScale
import Derived.Test.YtgkfnggnhphboaaDiv
import Derived.Test.YtgkfnggnhphboaaRoot
import Derived.Test.YtgkfnggnhphboaaEn
import Derived.Test.YtgkfnggnhphboaaSeg
import Derived.Test.YtgkfnggnhphboaaEn2
import Derived.Lib.Hide
import Derived.BigQuiet
import Derived.Deep.QuietTactic
import Derived.Deep.RegionHeld3
namespace Go.Proofs.Ytgkfnggnhphboaa
open Go.RowKit
set_option maxHeartbeats 2000000
set_option linter.unusedVariables false
set_option linter.unusedSimpArgs false

attribute [local go_sem] lt_2 lt_3 lt_4 lt_5 lt_6 fld_lo fld_hi
def wkLo (n r c e : Int) : Int := 2 * ((e + c) * n + 9806 * r)
theorem wk_bd {n r c e : Int} (h1 : 1 ≤ n ∧ n ≤ 200000) (h2 : -100000 ≤ r ∧ r ≤ 100000) (h3 : 0 ≤ c ∧ c ≤ 20000) (h4 : 0 ≤ e ∧ e ≤ 20000) :
    0 ≤ (e + c) * n ∧ (e + c) * n ≤ 8000000000 ∧ -2000000000 ≤ wkLo n r c e ∧ wkLo n r c e ≤ 20000000000 := by
  have h := mul_bd (a := e + c) (k := n) 40000 200000 (by omega) (by omega)
  have h0 := Int.mul_nonneg (show 0 ≤ e + c by omega) (show 0 ≤ n by omega)
  simp only [Nat.reduceMul] at h
  unfold wkLo; omega
theorem wk_le {n r c d e f : Int} (h1 : 1 ≤ n) (h : c ≤ d) (h2 : e ≤ f) : wkLo n r c e ≤ wkLo n r d f := by
  have := Int.mul_le_mul_of_nonneg_right (show e + c ≤ f + d by omega) (show (0 : Int) ≤ n by omega)
  unfold wkLo; omega
def brakeB (k : Int) : Bool := k == 3 || k == 4
def slowB (k n r c e : Int) : Bool := brakeB k && decide (1 ≤ wkLo n r c e)
def brakeCode (k n r c d e f : Int) : Int := if segOk k n r c d e f = true then (if brakeB k = true then 0 else 5) else 1
def workR (k n r c d e f : Int) : Int × Int × Int := if segOk k n r c d e f = true then (if brakeB k = true then (wkLo n r c e, wkLo n r d f, 0) else (0, 0, 5)) else (0, 0, 1)
def great (k n r c d e f : Int) : Int × Int := if segOk k n r c d e f = true then (if slowB k n r c e = true then (min (wkLo n r c e) 10000000000, 0) else (0, 5)) else (0, 1)
def stopD (k n r c d e f a b : Int) : Int × Int × Int :=
  if segOk k n r c d e f = true ∧ isEn a b = true then (if slowB k n r c e = true then (floorG (a * n) (wkLo n r d f), ceilG (b * n) (wkLo n r c e), 0) else (0, 0, 5)) else (0, 0, 1)
def stopV (k n r c d e f a b : Int) : Int × Int :=
  if segOk k n r c d e f = true ∧ isEn a b = true then (if brakeB k = true then (if slowB k n r c e = true ∧ b ≤ wkLo n r c e then (2, 0) else if wkLo n r d f < a then (0, 0) else (1, 0)) else (0, 5)) else (0, 1)

end Go.Proofs.Ytgkfnggnhphboaa
