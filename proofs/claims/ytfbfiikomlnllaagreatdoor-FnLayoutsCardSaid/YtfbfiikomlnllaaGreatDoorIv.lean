/- Contracts and lemmas for the proofs of this seat: Iv. -/
import Derived.Test.YtfbfiikomlnllaaGreatDoorBase
import Derived.Test.YtfbfiikomlnllaaGreatDoorNum
namespace Go.Proofs.YtfbfiikomlnllaaGreatDoor
open Go.RowKit
set_option maxHeartbeats 2000000
set_option linter.unusedVariables false
set_option linter.unusedSimpArgs false

attribute [local go_sem] lt_2 lt_3 lt_4 lt_5 lt_6
def ivRes (lo hi : Int) : Int × Int × Int := if isVal lo = true ∧ isVal hi = true then (lo, hi, 0) else (0, 0, 2)
def addIv (al ah bl bh : Int) : Int × Int × Int := if isIv al ah = true ∧ isIv bl bh = true then ivRes (al + bl) (ah + bh) else (0, 0, 1)
def subIv (al ah bl bh : Int) : Int × Int × Int := if isIv al ah = true ∧ isIv bl bh = true then ivRes (al - bh) (ah - bl) else (0, 0, 1)
def hullIv (al ah bl bh : Int) : Int × Int × Int := if isIv al ah = true ∧ isIv bl bh = true then (min al bl, max ah bh, 0) else (0, 0, 1)
def commonIv (al ah bl bh : Int) : Int × Int × Int := if isIv al ah = true ∧ isIv bl bh = true then (if max al bl ≤ min ah bh then (max al bl, min ah bh, 0) else (0, 0, 4)) else (0, 0, 1)
def withinIv (al ah bl bh : Int) : Bool := isIv al ah && isIv bl bh && (decide (bl ≤ al) && decide (ah ≤ bh))
def cmpIv (al ah bl bh : Int) : Int × Int := if isIv al ah = true ∧ isIv bl bh = true then (if ah < bl then (-1, 0) else if bh < al then (1, 0) else (0, 0)) else (0, 1)
def scaleIv (al ah k : Int) : Int × Int × Int := if isIv al ah = true then (if inB k (-1000000) 1000000 = true then (if k < 0 then ivRes (ah * k) (al * k) else ivRes (al * k) (ah * k)) else (0, 0, 2)) else (0, 0, 1)
/-- a field of an Interval that is a value -/
theorem fld_lo (a b : Int) (w : World) : Sem.run Tryz.prog (Instr.field 39 (Value.agg #[.int .i64 a, .int .i64 b]) 0) w = .ok (.int .i64 a) w := by kernel_rfl
theorem fld_hi (a b : Int) (w : World) : Sem.run Tryz.prog (Instr.field 39 (Value.agg #[.int .i64 a, .int .i64 b]) 1) w = .ok (.int .i64 b) w := by kernel_rfl
theorem isIv_false {lo hi : Int} (h : isVal lo = true ∧ isVal hi = true) (hle : lo ≤ hi) : isIv lo hi = true := by simp [isIv, h.1, h.2, hle]

theorem i_IsInterval (lo hi : Int) (w : World) : Calls Tryz.prog 66 #[ivV lo hi] w fun en w' => en = .returned (.bool (isIv lo hi)) ∧ Below w.heap.size w w' := by
  go_enter Tryz.func66, Tryz.ntmps66
  go_wp2_with (go_at_call 81; refine (i_isValue _ _).mono ?_; rintro e w' ⟨rfl, rfl⟩)
  all_goals go_ret
  all_goals exact ⟨ret_bool (by simp [isIv, *]), by repeat (first | exact Below.refl _ _ | refine balloc ?_ _ | refine Below.drew ?_ | refine bdrewN ?_ _ | refine bto ?_ (Own.below (by assumption)) | refine bset ?_ (by first | (simp; done) | (simp; omega) | exact Own.le_w (by assumption) (by first | (simp; done) | (simp; omega))) _)⟩

theorem s_IsInterval (lo hi : Int) (w : World) : Calls Tryz.prog 68 #[ivV lo hi] w fun en w' => en = .returned (.bool (isIv lo hi)) ∧ Below w.heap.size w w' := by
  go_enter Tryz.func68, Tryz.ntmps68
  go_wp2_with (go_at_call 82; refine (s_l01Is _ _).mono ?_; rintro e w' ⟨rfl, rfl⟩)
  all_goals go_ret
  all_goals exact ⟨ret_bool (by simp [isIv, *]), by repeat (first | exact Below.refl _ _ | refine balloc ?_ _ | refine Below.drew ?_ | refine bdrewN ?_ _ | refine bto ?_ (Own.below (by assumption)) | refine bset ?_ (by first | (simp; done) | (simp; omega) | exact Own.le_w (by assumption) (by first | (simp; done) | (simp; omega))) _)⟩

theorem l_eqInterval (al ah : Int) (w : World) : Calls Tryz.prog 63 #[ivV al ah, ivV al ah] w fun en w' => en = .returned (.bool true) ∧ Below w.heap.size w w' := by
  go_enter Tryz.func63, Tryz.ntmps63
  go_wp2
  go_ret
  exact ⟨rfl, by repeat (first | exact Below.refl _ _ | refine balloc ?_ _ | refine Below.drew ?_ | refine bdrewN ?_ _ | refine bto ?_ (Own.below (by assumption)) | refine bset ?_ (by first | (simp; done) | (simp; omega) | exact Own.le_w (by assumption) (by first | (simp; done) | (simp; omega))) _)⟩

end Go.Proofs.YtfbfiikomlnllaaGreatDoor
