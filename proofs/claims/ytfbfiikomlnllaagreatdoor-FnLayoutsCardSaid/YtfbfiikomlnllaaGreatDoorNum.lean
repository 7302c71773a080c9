/- Contracts and lemmas for the proofs of this seat: Num. -/
import Derived.Test.YtfbfiikomlnllaaGreatDoorBase
import Derived.Test.YtfbfiikomlnllaaGreatDoorRows
import Derived.WalkKit
import Derived.WalkSpells
import Derived.WalkLawsBesides
import Derived.Deep.RegionHeld3
import Derived.Deep.DeepCutAuto
namespace Go.Proofs.YtfbfiikomlnllaaGreatDoor
open Go.RowKit
set_option maxHeartbeats 2000000
set_option linter.unusedVariables false
set_option linter.unusedSimpArgs false

attribute [local go_sem] lt_2 lt_3 lt_4 lt_5 lt_6
def inB (x lo hi : Int) : Bool := decide (lo ≤ x) && decide (x ≤ hi)
def isVal (x : Int) : Bool := inB x (-1000000000000) 1000000000000
def isIv (a b : Int) : Bool := isVal a && isVal b && decide (a ≤ b)
abbrev ivV (a b : Int) : Value := .agg #[.int .i64 a, .int .i64 b]
abbrev ivT (r : Int × Int × Int) : Value := .tuple #[.agg #[.int .i64 r.1, .int .i64 r.2.1], .int .i64 r.2.2]
abbrev p2 (r : Int × Int) : Value := .tuple #[.int .i64 r.1, .int .i64 r.2]
theorem inB_iff {x lo hi : Int} : inB x lo hi = true ↔ lo ≤ x ∧ x ≤ hi := by simp [inB]
theorem isVal_iff {x : Int} : isVal x = true ↔ -1000000000000 ≤ x ∧ x ≤ 1000000000000 := by simp [isVal, inB]
theorem isIv_iff {a b : Int} : isIv a b = true ↔ (-1000000000000 ≤ a ∧ a ≤ 1000000000000) ∧ (-1000000000000 ≤ b ∧ b ≤ 1000000000000) ∧ a ≤ b := by simp [isIv, isVal_iff]; omega

theorem i_within (x lo hi : Int) (w : World) : Calls Tryz.prog 35 #[.int .i64 x, .int .i64 lo, .int .i64 hi] w fun en w' => en = .returned (.bool (inB x lo hi)) ∧ w = w' := by
  go_enter Tryz.func35, Tryz.ntmps35
  go_wp2
  all_goals go_ret
  all_goals exact ⟨ret_bool (by simp [inB]; try omega), rfl⟩

theorem s_l01In (x lo hi : Int) (w : World) : Calls Tryz.prog 52 #[.int .i64 x, .int .i64 lo, .int .i64 hi] w fun en w' => en = .returned (.bool (inB x lo hi)) ∧ w = w' := by
  go_enter Tryz.func52, Tryz.ntmps52
  go_wp2
  all_goals go_ret
  all_goals exact ⟨ret_bool (by simp [inB]; try omega), rfl⟩

theorem i_isValue (x : Int) (w : World) : Calls Tryz.prog 81 #[.int .i64 x] w fun en w' => en = .returned (.bool (isVal x)) ∧ w = w' := by
  go_enter Tryz.func81, Tryz.ntmps81
  go_wp2_with (go_at_call 35; refine (i_within _ _ _ _).mono ?_; rintro e w' ⟨rfl, rfl⟩)
  go_ret
  exact ⟨rfl, rfl⟩

theorem s_l01Is (x : Int) (w : World) : Calls Tryz.prog 82 #[.int .i64 x] w fun en w' => en = .returned (.bool (isVal x)) ∧ w = w' := by
  go_enter Tryz.func82, Tryz.ntmps82
  go_wp2_with (go_at_call 52; refine (s_l01In _ _ _ _).mono ?_; rintro e w' ⟨rfl, rfl⟩)
  go_ret
  exact ⟨rfl, rfl⟩

end Go.Proofs.YtfbfiikomlnllaaGreatDoor
