/- Contracts and lemmas for the proofs of this seat: Div. -/
import Derived.Test.YtafbmhncmbcpjaaBase
import Derived.Test.YtafbmhncmbcpjaaNum
namespace Go.Proofs.Ytafbmhncmbcpjaa
open Go.RowKit
set_option maxHeartbeats 2000000
set_option linter.unusedVariables false
set_option linter.unusedSimpArgs false

theorem wrap64_in {x : Int} (h1 : -9000000000000000000 ≤ x) (h2 : x ≤ 9000000000000000000) : wrap64 x = x := by unfold wrap64; omega
theorem tdiv_bd {a b M : Int} (h1 : -M ≤ a) (h2 : a ≤ M) : -M ≤ a.tdiv b ∧ a.tdiv b ≤ M := by
  have h := Int.natAbs_tdiv a b
  have h3 := Nat.div_le_self a.natAbs b.natAbs
  have h4 : ((a.tdiv b).natAbs : Int) ≤ a.natAbs := by rw [h]; exact_mod_cast h3
  omega
def floorG (a b : Int) : Int := if a.tmod b = 0 ∨ (a < 0 ↔ b < 0) then a.tdiv b else a.tdiv b - 1
def ceilG (a b : Int) : Int := -floorG (-a) b
theorem floorG_bd {a b M : Int} (h1 : -M ≤ a) (h2 : a ≤ M) : -M - 1 ≤ floorG a b ∧ floorG a b ≤ M := by
  have h := tdiv_bd (b := b) h1 h2
  unfold floorG; split <;> omega
def divDown (a b : Int) : Int × Int := if isVal a = true ∧ isVal b = true then (if b = 0 then (0, 5) else (floorG a b, 0)) else (0, 2)
def divUp (a b : Int) : Int × Int := if isVal a = true ∧ isVal b = true then (if b = 0 then (0, 5) else (ceilG a b, 0)) else (0, 2)

theorem i_down (a b : Int) (ha : -1000000000000000000 ≤ a ∧ a ≤ 1000000000000000000) (h0 : ¬ b = 0) (w : World) : Calls Try.prog 96 #[.int .i64 a, .int .i64 b] w fun en w' => en = .returned (.int .i64 (floorG a b)) ∧ w = w' := by
  have hd := tdiv_bd (b := b) ha.1 ha.2
  have hw : wrap64 (a.tdiv b) = a.tdiv b := wrap64_in (by omega) (by omega)
  by_cases hm : a.tmod b = 0
  · have hr : floorG a b = a.tdiv b := by simp [floorG, hm]
    rw [hr]; clear hr ha
    go_enter Try.func96, Try.ntmps96
    go_wp2
    go_ret
    exact ⟨rfl, rfl⟩
  · have hm2 : (a.tmod b != 0) = true := by simpa using hm
    rcases ilt a 0 with c1 | c1 <;> rcases ilt b 0 with c2 | c2
    · have hr : floorG a b = a.tdiv b := by unfold floorG; rw [if_pos (by omega)]
      have d1 : decide (a < 0) = true := by simpa using c1
      have d2 : decide (b < 0) = true := by simpa using c2
      have hw2 : wrap64 (a.tdiv b - 1) = a.tdiv b - 1 := wrap64_in (by omega) (by omega)
      rw [hr]; clear hr c1 c2 ha
      go_enter Try.func96, Try.ntmps96
      go_wp2
      go_ret
      exact ⟨rfl, rfl⟩
    · have hr : floorG a b = a.tdiv b - 1 := by unfold floorG; rw [if_neg (by omega)]
      have d1 : decide (a < 0) = true := by simpa using c1
      have d2 : decide (b < 0) = false := by simpa using c2
      have hw2 : wrap64 (a.tdiv b - 1) = a.tdiv b - 1 := wrap64_in (by omega) (by omega)
      rw [hr]; clear hr c1 c2 ha
      go_enter Try.func96, Try.ntmps96
      go_wp2
      go_ret
      exact ⟨rfl, rfl⟩
    · have hr : floorG a b = a.tdiv b - 1 := by unfold floorG; rw [if_neg (by omega)]
      have d1 : decide (a < 0) = false := by simpa using c1
      have d2 : decide (b < 0) = true := by simpa using c2
      have hw2 : wrap64 (a.tdiv b - 1) = a.tdiv b - 1 := wrap64_in (by omega) (by omega)
      rw [hr]; clear hr c1 c2 ha
      go_enter Try.func96, Try.ntmps96
      go_wp2
      go_ret
      exact ⟨rfl, rfl⟩
    · have hr : floorG a b = a.tdiv b := by unfold floorG; rw [if_pos (by omega)]
      have d1 : decide (a < 0) = false := by simpa using c1
      have d2 : decide (b < 0) = false := by simpa using c2
      have hw2 : wrap64 (a.tdiv b - 1) = a.tdiv b - 1 := wrap64_in (by omega) (by omega)
      rw [hr]; clear hr c1 c2 ha
      go_enter Try.func96, Try.ntmps96
      go_wp2
      go_ret
      exact ⟨rfl, rfl⟩

theorem s_l01Floor (a b : Int) (ha : -1000000000000000000 ≤ a ∧ a ≤ 1000000000000000000) (h0 : ¬ b = 0) (w : World) : Calls Try.prog 82 #[.int .i64 a, .int .i64 b] w fun en w' => en = .returned (.int .i64 (floorG a b)) ∧ w = w' := by
  have hd := tdiv_bd (b := b) ha.1 ha.2
  have hw : wrap64 (a.tdiv b) = a.tdiv b := wrap64_in (by omega) (by omega)
  by_cases hm : a.tmod b = 0
  · have hr : floorG a b = a.tdiv b := by simp [floorG, hm]
    rw [hr]; clear hr ha
    go_enter Try.func82, Try.ntmps82
    go_wp2
    go_ret
    exact ⟨rfl, rfl⟩
  · have hm2 : (a.tmod b != 0) = true := by simpa using hm
    rcases ilt a 0 with c1 | c1 <;> rcases ilt b 0 with c2 | c2
    · have hr : floorG a b = a.tdiv b := by unfold floorG; rw [if_pos (by omega)]
      have d1 : decide (a < 0) = true := by simpa using c1
      have d2 : decide (b < 0) = true := by simpa using c2
      have hw2 : wrap64 (a.tdiv b - 1) = a.tdiv b - 1 := wrap64_in (by omega) (by omega)
      rw [hr]; clear hr c1 c2 ha
      go_enter Try.func82, Try.ntmps82
      go_wp2
      go_ret
      exact ⟨rfl, rfl⟩
    · have hr : floorG a b = a.tdiv b - 1 := by unfold floorG; rw [if_neg (by omega)]
      have d1 : decide (a < 0) = true := by simpa using c1
      have d2 : decide (b < 0) = false := by simpa using c2
      have hw2 : wrap64 (a.tdiv b - 1) = a.tdiv b - 1 := wrap64_in (by omega) (by omega)
      rw [hr]; clear hr c1 c2 ha
      go_enter Try.func82, Try.ntmps82
      go_wp2
      go_ret
      exact ⟨rfl, rfl⟩
    · have hr : floorG a b = a.tdiv b - 1 := by unfold floorG; rw [if_neg (by omega)]
      have d1 : decide (a < 0) = false := by simpa using c1
      have d2 : decide (b < 0) = true := by simpa using c2
      have hw2 : wrap64 (a.tdiv b - 1) = a.tdiv b - 1 := wrap64_in (by omega) (by omega)
      rw [hr]; clear hr c1 c2 ha
      go_enter Try.func82, Try.ntmps82
      go_wp2
      go_ret
      exact ⟨rfl, rfl⟩
    · have hr : floorG a b = a.tdiv b := by unfold floorG; rw [if_pos (by omega)]
      have d1 : decide (a < 0) = false := by simpa using c1
      have d2 : decide (b < 0) = false := by simpa using c2
      have hw2 : wrap64 (a.tdiv b - 1) = a.tdiv b - 1 := wrap64_in (by omega) (by omega)
      rw [hr]; clear hr c1 c2 ha
      go_enter Try.func82, Try.ntmps82
      go_wp2
      go_ret
      exact ⟨rfl, rfl⟩

theorem i_up (a b : Int) (ha : -1000000000000000000 ≤ a ∧ a ≤ 1000000000000000000) (h0 : ¬ b = 0) (w : World) : Calls Try.prog 97 #[.int .i64 a, .int .i64 b] w fun en w' => en = .returned (.int .i64 (ceilG a b)) ∧ w = w' := by
  have hd := floorG_bd (a := -a) (b := b) (M := 1000000000000000000) (by omega) (by omega)
  show Calls Try.prog 97 #[.int .i64 a, .int .i64 b] w fun en w' => en = .returned (.int .i64 (-floorG (-a) b)) ∧ w = w'
  go_enter Try.func97, Try.ntmps97
  go_wp2_with (go_at_call 96; refine (i_down _ _ (by omega) h0 _).mono ?_; rintro e w' ⟨rfl, rfl⟩)
  go_ret
  exact ⟨rfl, rfl⟩

theorem s_l01Ceil (a b : Int) (ha : -1000000000000000000 ≤ a ∧ a ≤ 1000000000000000000) (h0 : ¬ b = 0) (w : World) : Calls Try.prog 83 #[.int .i64 a, .int .i64 b] w fun en w' => en = .returned (.int .i64 (ceilG a b)) ∧ w = w' := by
  have hd := floorG_bd (a := -a) (b := b) (M := 1000000000000000000) (by omega) (by omega)
  show Calls Try.prog 83 #[.int .i64 a, .int .i64 b] w fun en w' => en = .returned (.int .i64 (-floorG (-a) b)) ∧ w = w'
  go_enter Try.func83, Try.ntmps83
  go_wp2_with (go_at_call 82; refine (s_l01Floor _ _ (by omega) h0 _).mono ?_; rintro e w' ⟨rfl, rfl⟩)
  go_ret
  exact ⟨rfl, rfl⟩

theorem i_quotientCode (a b : Int) (w : World) : Calls Try.prog 95 #[.int .i64 a, .int .i64 b] w fun en w' => en = .returned (.int .i64 (divDown a b).2) ∧ w = w' := by
  rcases Bool.eq_false_or_eq_true (isVal a) with h1 | h1
  · rcases Bool.eq_false_or_eq_true (isVal b) with h2 | h2
    · by_cases h0 : b = 0
      · have hr : (divDown a b).2 = 5 := by unfold divDown; rw [if_pos ⟨h1, h2⟩, if_pos h0]
        have h0b : (b == 0) = true := by simpa using h0
        rw [hr]; clear hr h0
        go_enter Try.func95, Try.ntmps95
        go_wp2_with (go_at_call 106; refine (i_isValue _ _).mono ?_; rintro e w' ⟨rfl, rfl⟩)
        go_ret
        exact ⟨rfl, rfl⟩
      · have hr : (divDown a b).2 = 0 := by simp [divDown, h1, h2, h0]
        have h0b : (b == 0) = false := by simpa using h0
        rw [hr]; clear hr h0
        go_enter Try.func95, Try.ntmps95
        go_wp2_with (go_at_call 106; refine (i_isValue _ _).mono ?_; rintro e w' ⟨rfl, rfl⟩)
        go_ret
        exact ⟨rfl, rfl⟩
    · have hr : (divDown a b).2 = 2 := by simp [divDown, h2]
      rw [hr]; clear hr
      go_enter Try.func95, Try.ntmps95
      go_wp2_with (go_at_call 106; refine (i_isValue _ _).mono ?_; rintro e w' ⟨rfl, rfl⟩)
      go_ret
      exact ⟨rfl, rfl⟩
  · have hr : (divDown a b).2 = 2 := by simp [divDown, h1]
    rw [hr]; clear hr
    go_enter Try.func95, Try.ntmps95
    go_wp2_with (go_at_call 106; refine (i_isValue _ _).mono ?_; rintro e w' ⟨rfl, rfl⟩)
    go_ret
    exact ⟨rfl, rfl⟩
theorem divUp_code (a b : Int) : (divUp a b).2 = (divDown a b).2 := by unfold divUp divDown; split <;> (try split) <;> rfl

theorem i_DivideDown (a b : Int) (w : World) : Calls Try.prog 27 #[.int .i64 a, .int .i64 b] w fun en w' => en = .returned (p2 (divDown a b)) ∧ w = w' := by
  rcases Bool.eq_false_or_eq_true (isVal a) with h1 | h1
  · rcases Bool.eq_false_or_eq_true (isVal b) with h2 | h2
    · by_cases h0 : b = 0
      · have hr : divDown a b = (0, 5) := by unfold divDown; rw [if_pos ⟨h1, h2⟩, if_pos h0]
        have hc : (divDown a b).2 = 5 := by unfold divDown; rw [if_pos ⟨h1, h2⟩, if_pos h0]
        rw [hr]; clear hr h0
        go_enter Try.func27, Try.ntmps27
        go_wp2_with (first | (go_at_call 95; refine (i_quotientCode _ _ _).mono ?_; rintro e w' ⟨rfl, rfl⟩) | (go_at_call 96; refine (i_down _ _ (by omega) (by assumption) _).mono ?_; rintro e w' ⟨rfl, rfl⟩))
        go_ret2
        exact ⟨rfl, rfl⟩
      · have hr : divDown a b = (floorG a b, 0) := by simp [divDown, h1, h2, h0]
        have hc : (divDown a b).2 = 0 := by simp [divDown, h1, h2, h0]
        have g1 := isVal_iff.1 h1
        rw [hr]; clear hr
        go_enter Try.func27, Try.ntmps27
        go_wp2_with (first | (go_at_call 95; refine (i_quotientCode _ _ _).mono ?_; rintro e w' ⟨rfl, rfl⟩) | (go_at_call 96; refine (i_down _ _ (by omega) h0 _).mono ?_; rintro e w' ⟨rfl, rfl⟩))
        go_ret2
        exact ⟨rfl, rfl⟩
    · have hr : divDown a b = (0, 2) := by simp [divDown, h2]
      have hc : (divDown a b).2 = 2 := by simp [divDown, h2]
      rw [hr]; clear hr
      go_enter Try.func27, Try.ntmps27
      go_wp2_with (first | (go_at_call 95; refine (i_quotientCode _ _ _).mono ?_; rintro e w' ⟨rfl, rfl⟩) | (go_at_call 96; refine (i_down _ _ (by omega) (by assumption) _).mono ?_; rintro e w' ⟨rfl, rfl⟩))
      go_ret2
      exact ⟨rfl, rfl⟩
  · have hr : divDown a b = (0, 2) := by simp [divDown, h1]
    have hc : (divDown a b).2 = 2 := by simp [divDown, h1]
    rw [hr]; clear hr
    go_enter Try.func27, Try.ntmps27
    go_wp2_with (first | (go_at_call 95; refine (i_quotientCode _ _ _).mono ?_; rintro e w' ⟨rfl, rfl⟩) | (go_at_call 96; refine (i_down _ _ (by omega) (by assumption) _).mono ?_; rintro e w' ⟨rfl, rfl⟩))
    go_ret2
    exact ⟨rfl, rfl⟩

theorem i_DivideUp (a b : Int) (w : World) : Calls Try.prog 28 #[.int .i64 a, .int .i64 b] w fun en w' => en = .returned (p2 (divUp a b)) ∧ w = w' := by
  rcases Bool.eq_false_or_eq_true (isVal a) with h1 | h1
  · rcases Bool.eq_false_or_eq_true (isVal b) with h2 | h2
    · by_cases h0 : b = 0
      · have hr : divUp a b = (0, 5) := by unfold divUp; rw [if_pos ⟨h1, h2⟩, if_pos h0]
        have hc : (divDown a b).2 = 5 := by unfold divDown; rw [if_pos ⟨h1, h2⟩, if_pos h0]
        rw [hr]; clear hr h0
        go_enter Try.func28, Try.ntmps28
        go_wp2_with (first | (go_at_call 95; refine (i_quotientCode _ _ _).mono ?_; rintro e w' ⟨rfl, rfl⟩) | (go_at_call 97; refine (i_up _ _ (by omega) (by assumption) _).mono ?_; rintro e w' ⟨rfl, rfl⟩))
        go_ret2
        exact ⟨rfl, rfl⟩
      · have hr : divUp a b = (ceilG a b, 0) := by simp [divUp, h1, h2, h0]
        have hc : (divDown a b).2 = 0 := by simp [divDown, h1, h2, h0]
        have g1 := isVal_iff.1 h1
        rw [hr]; clear hr
        go_enter Try.func28, Try.ntmps28
        go_wp2_with (first | (go_at_call 95; refine (i_quotientCode _ _ _).mono ?_; rintro e w' ⟨rfl, rfl⟩) | (go_at_call 97; refine (i_up _ _ (by omega) h0 _).mono ?_; rintro e w' ⟨rfl, rfl⟩))
        go_ret2
        exact ⟨rfl, rfl⟩
    · have hr : divUp a b = (0, 2) := by simp [divUp, h2]
      have hc : (divDown a b).2 = 2 := by simp [divDown, h2]
      rw [hr]; clear hr
      go_enter Try.func28, Try.ntmps28
      go_wp2_with (first | (go_at_call 95; refine (i_quotientCode _ _ _).mono ?_; rintro e w' ⟨rfl, rfl⟩) | (go_at_call 97; refine (i_up _ _ (by omega) (by assumption) _).mono ?_; rintro e w' ⟨rfl, rfl⟩))
      go_ret2
      exact ⟨rfl, rfl⟩
  · have hr : divUp a b = (0, 2) := by simp [divUp, h1]
    have hc : (divDown a b).2 = 2 := by simp [divDown, h1]
    rw [hr]; clear hr
    go_enter Try.func28, Try.ntmps28
    go_wp2_with (first | (go_at_call 95; refine (i_quotientCode _ _ _).mono ?_; rintro e w' ⟨rfl, rfl⟩) | (go_at_call 97; refine (i_up _ _ (by omega) (by assumption) _).mono ?_; rintro e w' ⟨rfl, rfl⟩))
    go_ret2
    exact ⟨rfl, rfl⟩

theorem s_l01Divide_false (a b : Int) (w : World) : Calls Try.prog 98 #[.int .i64 a, .int .i64 b, .bool false] w fun en w' => en = .returned (p2 (divDown a b)) ∧ w = w' := by
  rcases Bool.eq_false_or_eq_true (isVal a) with h1 | h1
  · rcases Bool.eq_false_or_eq_true (isVal b) with h2 | h2
    · by_cases h0 : b = 0
      · have hr : divDown a b = (0, 5) := by unfold divDown; rw [if_pos ⟨h1, h2⟩, if_pos h0]
        have h0b : (b == 0) = true := by simpa using h0
        rw [hr]; clear hr h0
        go_enter Try.func98, Try.ntmps98
        go_wp2_with (go_at_call 111; refine (s_l01Is _ _).mono ?_; rintro e w' ⟨rfl, rfl⟩)
        go_ret2
        exact ⟨rfl, rfl⟩
      · have hr : divDown a b = (floorG a b, 0) := by simp [divDown, h1, h2, h0]
        have h0b : (b == 0) = false := by simpa using h0
        have g1 := isVal_iff.1 h1
        rw [hr]; clear hr
        go_enter Try.func98, Try.ntmps98
        go_wp2_with (first | (go_at_call 111; refine (s_l01Is _ _).mono ?_; rintro e w' ⟨rfl, rfl⟩) | (go_at_call 82; refine (s_l01Floor _ _ (by omega) h0 _).mono ?_; rintro e w' ⟨rfl, rfl⟩))
        go_ret2
        exact ⟨rfl, rfl⟩
    · have hr : divDown a b = (0, 2) := by simp [divDown, h2]
      rw [hr]; clear hr
      go_enter Try.func98, Try.ntmps98
      go_wp2_with (go_at_call 111; refine (s_l01Is _ _).mono ?_; rintro e w' ⟨rfl, rfl⟩)
      go_ret2
      exact ⟨rfl, rfl⟩
  · have hr : divDown a b = (0, 2) := by simp [divDown, h1]
    rw [hr]; clear hr
    go_enter Try.func98, Try.ntmps98
    go_wp2_with (go_at_call 111; refine (s_l01Is _ _).mono ?_; rintro e w' ⟨rfl, rfl⟩)
    go_ret2
    exact ⟨rfl, rfl⟩

theorem s_l01Divide_true (a b : Int) (w : World) : Calls Try.prog 98 #[.int .i64 a, .int .i64 b, .bool true] w fun en w' => en = .returned (p2 (divUp a b)) ∧ w = w' := by
  rcases Bool.eq_false_or_eq_true (isVal a) with h1 | h1
  · rcases Bool.eq_false_or_eq_true (isVal b) with h2 | h2
    · by_cases h0 : b = 0
      · have hr : divUp a b = (0, 5) := by unfold divUp; rw [if_pos ⟨h1, h2⟩, if_pos h0]
        have h0b : (b == 0) = true := by simpa using h0
        rw [hr]; clear hr h0
        go_enter Try.func98, Try.ntmps98
        go_wp2_with (go_at_call 111; refine (s_l01Is _ _).mono ?_; rintro e w' ⟨rfl, rfl⟩)
        go_ret2
        exact ⟨rfl, rfl⟩
      · have hr : divUp a b = (ceilG a b, 0) := by simp [divUp, h1, h2, h0]
        have h0b : (b == 0) = false := by simpa using h0
        have g1 := isVal_iff.1 h1
        rw [hr]; clear hr
        go_enter Try.func98, Try.ntmps98
        go_wp2_with (first | (go_at_call 111; refine (s_l01Is _ _).mono ?_; rintro e w' ⟨rfl, rfl⟩) | (go_at_call 83; refine (s_l01Ceil _ _ (by omega) h0 _).mono ?_; rintro e w' ⟨rfl, rfl⟩))
        go_ret2
        exact ⟨rfl, rfl⟩
    · have hr : divUp a b = (0, 2) := by simp [divUp, h2]
      rw [hr]; clear hr
      go_enter Try.func98, Try.ntmps98
      go_wp2_with (go_at_call 111; refine (s_l01Is _ _).mono ?_; rintro e w' ⟨rfl, rfl⟩)
      go_ret2
      exact ⟨rfl, rfl⟩
  · have hr : divUp a b = (0, 2) := by simp [divUp, h1]
    rw [hr]; clear hr
    go_enter Try.func98, Try.ntmps98
    go_wp2_with (go_at_call 111; refine (s_l01Is _ _).mono ?_; rintro e w' ⟨rfl, rfl⟩)
    go_ret2
    exact ⟨rfl, rfl⟩

theorem s_DivideDown (a b : Int) (w : World) : Calls Try.prog 29 #[.int .i64 a, .int .i64 b] w fun en w' => en = .returned (p2 (divDown a b)) ∧ w = w' := by
  go_enter Try.func29, Try.ntmps29
  go_wp2_with (go_at_call 98; refine (s_l01Divide_false _ _ _).mono ?_; rintro e w' ⟨rfl, rfl⟩)
  go_ret2
  exact ⟨rfl, rfl⟩

end Go.Proofs.Ytafbmhncmbcpjaa
