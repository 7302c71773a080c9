/- Contracts and lemmas for the proofs of this seat: Div. -/
import Derived.Test.YtgkfnggnhphboaaBase
import Derived.Test.YtgkfnggnhphboaaNum
namespace Go.Proofs.Ytgkfnggnhphboaa
open Go.RowKit
set_option maxHeartbeats 2000000
set_option linter.unusedVariables false
set_option linter.unusedSimpArgs false

theorem wrap64_in {x : Int} (h1 : -9000000000000000000 ≤ x) (h2 : x ≤ 9000000000000000000) : wrap64 x = x := by unfold wrap64; omega
theorem tdiv_bd {a b M : Int} (h1 : -M ≤ a) (h2 : a ≤ M) : -M ≤ a.tdiv b ∧ a.tdiv b ≤ M := by
  have h := Int.natAbs_tdiv a b
  have h3 := Nat.div_le_self a.natAbs b.natAbs
  have h4 : ((a.tdiv b).natAbs : Int) ≤ a.natAbs := by rw [h]; exact_mod_cast h3
  omega
def floorG (a b : Int) : Int := if a.tmod b = 0 ∨ (a < 0 ↔ b < 0) then a.tdiv b else a.tdiv b - 1
def ceilG (a b : Int) : Int := -floorG (-a) b
theorem floorG_bd {a b M : Int} (h1 : -M ≤ a) (h2 : a ≤ M) : -M - 1 ≤ floorG a b ∧ floorG a b ≤ M := by
  have h := tdiv_bd (b := b) h1 h2
  unfold floorG; split <;> omega
def divDown (a b : Int) : Int × Int := if isVal a = true ∧ isVal b = true then (if b = 0 then (0, 5) else (floorG a b, 0)) else (0, 2)
def divUp (a b : Int) : Int × Int := if isVal a = true ∧ isVal b = true then (if b = 0 then (0, 5) else (ceilG a b, 0)) else (0, 2)

theorem i_down (a b : Int) (ha : -1000000000000000000 ≤ a ∧ a ≤ 1000000000000000000) (h0 : ¬ b = 0) (w : World) : Calls Try.prog 87 #[.int .i64 a, .int .i64 b] w fun en w' => en = .returned (.int .i64 (floorG a b)) ∧ w = w' := by
  have hd := tdiv_bd (b := b) ha.1 ha.2
  have hw : wrap64 (a.tdiv b) = a.tdiv b := wrap64_in (by omega) (by omega)
  by_cases hm : a.tmod b = 0
  · have hr : floorG a b = a.tdiv b := by simp [floorG, hm]
    rw [hr]; clear hr ha
    go_enter Try.func87, Try.ntmps87
    go_wp2
    go_ret
    exact ⟨rfl, rfl⟩
  · have hm2 : (a.tmod b != 0) = true := by simpa using hm
    rcases ilt a 0 with c1 | c1 <;> rcases ilt b 0 with c2 | c2
    · have hr : floorG a b = a.tdiv b := by unfold floorG; rw [if_pos (by omega)]
      have d1 : decide (a < 0) = true := by simpa using c1
      have d2 : decide (b < 0) = true := by simpa using c2
      have hw2 : wrap64 (a.tdiv b - 1) = a.tdiv b - 1 := wrap64_in (by omega) (by omega)
      rw [hr]; clear hr c1 c2 ha
      go_enter Try.func87, Try.ntmps87
      go_wp2
      go_ret
      exact ⟨rfl, rfl⟩
    · have hr : floorG a b = a.tdiv b - 1 := by unfold floorG; rw [if_neg (by omega)]
      have d1 : decide (a < 0) = true := by simpa using c1
      have d2 : decide (b < 0) = false := by simpa using c2
      have hw2 : wrap64 (a.tdiv b - 1) = a.tdiv b - 1 := wrap64_in (by omega) (by omega)
      rw [hr]; clear hr c1 c2 ha
      go_enter Try.func87, Try.ntmps87
      go_wp2
      go_ret
      exact ⟨rfl, rfl⟩
    · have hr : floorG a b = a.tdiv b - 1 := by unfold floorG; rw [if_neg (by omega)]
      have d1 : decide (a < 0) = false := by simpa using c1
      have d2 : decide (b < 0) = true := by simpa using c2
      have hw2 : wrap64 (a.tdiv b - 1) = a.tdiv b - 1 := wrap64_in (by omega) (by omega)
      rw [hr]; clear hr c1 c2 ha
      go_enter Try.func87, Try.ntmps87
      go_wp2
      go_ret
      exact ⟨rfl, rfl⟩
    · have hr : floorG a b = a.tdiv b := by unfold floorG; rw [if_pos (by omega)]
      have d1 : decide (a < 0) = false := by simpa using c1
      have d2 : decide (b < 0) = false := by simpa using c2
      have hw2 : wrap64 (a.tdiv b - 1) = a.tdiv b - 1 := wrap64_in (by omega) (by omega)
      rw [hr]; clear hr c1 c2 ha
      go_enter Try.func87, Try.ntmps87
      go_wp2
      go_ret
      exact ⟨rfl, rfl⟩

theorem s_l01Floor (a b : Int) (ha : -1000000000000000000 ≤ a ∧ a ≤ 1000000000000000000) (h0 : ¬ b = 0) (w : World) : Calls Try.prog 88 #[.int .i64 a, .int .i64 b] w fun en w' => en = .returned (.int .i64 (floorG a b)) ∧ w = w' := by
  have hd := tdiv_bd (b := b) ha.1 ha.2
  have hw : wrap64 (a.tdiv b) = a.tdiv b := wrap64_in (by omega) (by omega)
  by_cases hm : a.tmod b = 0
  · have hr : floorG a b = a.tdiv b := by simp [floorG, hm]
    rw [hr]; clear hr ha
    go_enter Try.func88, Try.ntmps88
    go_wp2
    go_ret
    exact ⟨rfl, rfl⟩
  · have hm2 : (a.tmod b != 0) = true := by simpa using hm
    rcases ilt a 0 with c1 | c1 <;> rcases ilt b 0 with c2 | c2
    · have hr : floorG a b = a.tdiv b := by unfold floorG; rw [if_pos (by omega)]
      have d1 : decide (a < 0) = true := by simpa using c1
      have d2 : decide (b < 0) = true := by simpa using c2
      have hw2 : wrap64 (a.tdiv b - 1) = a.tdiv b - 1 := wrap64_in (by omega) (by omega)
      rw [hr]; clear hr c1 c2 ha
      go_enter Try.func88, Try.ntmps88
      go_wp2
      go_ret
      exact ⟨rfl, rfl⟩
    · have hr : floorG a b = a.tdiv b - 1 := by unfold floorG; rw [if_neg (by omega)]
      have d1 : decide (a < 0) = true := by simpa using c1
      have d2 : decide (b < 0) = false := by simpa using c2
      have hw2 : wrap64 (a.tdiv b - 1) = a.tdiv b - 1 := wrap64_in (by omega) (by omega)
      rw [hr]; clear hr c1 c2 ha
      go_enter Try.func88, Try.ntmps88
      go_wp2
      go_ret
      exact ⟨rfl, rfl⟩
    · have hr : floorG a b = a.tdiv b - 1 := by unfold floorG; rw [if_neg (by omega)]
      have d1 : decide (a < 0) = false := by simpa using c1
      have d2 : decide (b < 0) = true := by simpa using c2
      have hw2 : wrap64 (a.tdiv b - 1) = a.tdiv b - 1 := wrap64_in (by omega) (by omega)
      rw [hr]; clear hr c1 c2 ha
      go_enter Try.func88, Try.ntmps88
      go_wp2
      go_ret
      exact ⟨rfl, rfl⟩
    · have hr : floorG a b = a.tdiv b := by unfold floorG; rw [if_pos (by omega)]
      have d1 : decide (a < 0) = false := by simpa using c1
      have d2 : decide (b < 0) = false := by simpa using c2
      have hw2 : wrap64 (a.tdiv b - 1) = a.tdiv b - 1 := wrap64_in (by omega) (by omega)
      rw [hr]; clear hr c1 c2 ha
      go_enter Try.func88, Try.ntmps88
      go_wp2
      go_ret
      exact ⟨rfl, rfl⟩

end Go.Proofs.Ytgkfnggnhphboaa
