/- Contracts and lemmas for the proofs of this seat: En. -/
import Derived.Test.YtfbfiikomlnllaaGreatDoorBase
import Derived.Test.YtfbfiikomlnllaaGreatDoorNum
import Derived.Test.YtfbfiikomlnllaaGreatDoorIv
import Derived.Test.YtfbfiikomlnllaaGreatDoorIv2
namespace Go.Proofs.YtfbfiikomlnllaaGreatDoor
open Go.RowKit
set_option maxHeartbeats 2000000
set_option linter.unusedVariables false
set_option linter.unusedSimpArgs false

attribute [local go_sem] lt_2 lt_3 lt_4 lt_5 lt_6
def enOfSpeed (v : Int) : Int × Int := if inB v 0 100000 = true then (v * v, 0) else (0, 2)
def isEn (a b : Int) : Bool := isIv a b && (decide (0 ≤ a) && decide (b ≤ 10000000000))
theorem isEn_iff {a b : Int} : isEn a b = true ↔ 0 ≤ a ∧ a ≤ b ∧ b ≤ 10000000000 := by simp [isEn, isIv_iff]; omega
theorem sq100 {v : Int} (h : 0 ≤ v ∧ v ≤ 100000) : 0 ≤ v * v ∧ v * v ≤ 10000000000 := ⟨Int.mul_nonneg h.1 h.1, by have := Int.mul_le_mul h.2 h.2 h.1 (by omega : (0 : Int) ≤ 100000); omega⟩

def within3 (a b lo hi : Int) : Bool := isIv a b && (decide (lo ≤ a) && decide (b ≤ hi))
theorem s_l03Within (a b lo hi : Int) (w : World) : Calls Tryz.prog 53 #[ivV a b, .int .i64 lo, .int .i64 hi] w fun en w' => en = .returned (.bool (within3 a b lo hi)) ∧ Below w.heap.size w w' := by
  rcases Bool.eq_false_or_eq_true (isIv a b) with h1 | h1
  · rcases ilt a lo with c1 | c1
    · have hr : within3 a b lo hi = false := by simp [within3]; omega
      rw [hr]; clear hr
      (go_enter Tryz.func53, Tryz.ntmps53; go_wp2_with (go_at_call 68; refine (s_IsInterval _ _ _).mono ?_; rintro e w' ⟨rfl, hb⟩; have hr := New.join (by first | assumption | exact New.startD _ | exact New.startN _ _ | exact New.start _) hb; obtain ⟨rc, rf, rl, rl1, -, -, rn⟩ := hr.own.kept; replace hb := Own.join (by first | assumption | exact Own.alloc (by assumption) _ | exact Own.drew (by assumption) | exact Own.drew (Own.alloc (by assumption) _) | exact Own.alloc (Own.alloc (by assumption) _) _ | exact Own.alloc (Own.alloc (Own.alloc (by assumption) _) _) _ | exact Own.drewN (by assumption) _ | exact Own.drew (Own.start _) | exact Own.drewN (Own.start _) _ | exact Own.start _) hb; obtain ⟨hc, hf, hl, hl1, hl2, hl3, hn⟩ := hb.kept); go_ret; exact ⟨rfl, by repeat (first | exact Below.refl _ _ | refine balloc ?_ _ | refine Below.drew ?_ | refine bdrewN ?_ _ | refine bto ?_ (Own.below (by assumption)) | refine bset ?_ (by first | (simp; done) | (simp; omega) | exact Own.le_w (by assumption) (by first | (simp; done) | (simp; omega))) _)⟩)
    · have hr : within3 a b lo hi = decide (b ≤ hi) := by simp [within3, h1]; omega
      rw [hr]; clear hr
      (go_enter Tryz.func53, Tryz.ntmps53; go_wp2_with (go_at_call 68; refine (s_IsInterval _ _ _).mono ?_; rintro e w' ⟨rfl, hb⟩; have hr := New.join (by first | assumption | exact New.startD _ | exact New.startN _ _ | exact New.start _) hb; obtain ⟨rc, rf, rl, rl1, -, -, rn⟩ := hr.own.kept; replace hb := Own.join (by first | assumption | exact Own.alloc (by assumption) _ | exact Own.drew (by assumption) | exact Own.drew (Own.alloc (by assumption) _) | exact Own.alloc (Own.alloc (by assumption) _) _ | exact Own.alloc (Own.alloc (Own.alloc (by assumption) _) _) _ | exact Own.drewN (by assumption) _ | exact Own.drew (Own.start _) | exact Own.drewN (Own.start _) _ | exact Own.start _) hb; obtain ⟨hc, hf, hl, hl1, hl2, hl3, hn⟩ := hb.kept); go_ret; exact ⟨rfl, by repeat (first | exact Below.refl _ _ | refine balloc ?_ _ | refine Below.drew ?_ | refine bdrewN ?_ _ | refine bto ?_ (Own.below (by assumption)) | refine bset ?_ (by first | (simp; done) | (simp; omega) | exact Own.le_w (by assumption) (by first | (simp; done) | (simp; omega))) _)⟩)
  · have hr : within3 a b lo hi = false := by simp [within3, h1]
    rw [hr]; clear hr
    (go_enter Tryz.func53, Tryz.ntmps53; go_wp2_with (go_at_call 68; refine (s_IsInterval _ _ _).mono ?_; rintro e w' ⟨rfl, hb⟩; have hr := New.join (by first | assumption | exact New.startD _ | exact New.startN _ _ | exact New.start _) hb; obtain ⟨rc, rf, rl, rl1, -, -, rn⟩ := hr.own.kept; replace hb := Own.join (by first | assumption | exact Own.alloc (by assumption) _ | exact Own.drew (by assumption) | exact Own.drew (Own.alloc (by assumption) _) | exact Own.alloc (Own.alloc (by assumption) _) _ | exact Own.alloc (Own.alloc (Own.alloc (by assumption) _) _) _ | exact Own.drewN (by assumption) _ | exact Own.drew (Own.start _) | exact Own.drewN (Own.start _) _ | exact Own.start _) hb; obtain ⟨hc, hf, hl, hl1, hl2, hl3, hn⟩ := hb.kept); go_ret; exact ⟨rfl, by repeat (first | exact Below.refl _ _ | refine balloc ?_ _ | refine Below.drew ?_ | refine bdrewN ?_ _ | refine bto ?_ (Own.below (by assumption)) | refine bset ?_ (by first | (simp; done) | (simp; omega) | exact Own.le_w (by assumption) (by first | (simp; done) | (simp; omega))) _)⟩)

end Go.Proofs.YtfbfiikomlnllaaGreatDoor
