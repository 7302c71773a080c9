/- Contracts and lemmas for the proofs of this seat: Iv. -/
import Derived.Test.YtfhliikfnhggpaaBase
import Derived.Test.YtfhliikfnhggpaaNum
namespace Go.Proofs.Ytfhliikfnhggpaa
open Go.RowKit
set_option maxHeartbeats 2000000
set_option linter.unusedVariables false
set_option linter.unusedSimpArgs false

attribute [local go_sem] lt_2 lt_3 lt_4 lt_5 lt_6
def ivRes (lo hi : Int) : Int × Int × Int := if isVal lo = true ∧ isVal hi = true then (lo, hi, 0) else (0, 0, 2)
def addIv (al ah bl bh : Int) : Int × Int × Int := if isIv al ah = true ∧ isIv bl bh = true then ivRes (al + bl) (ah + bh) else (0, 0, 1)
def subIv (al ah bl bh : Int) : Int × Int × Int := if isIv al ah = true ∧ isIv bl bh = true then ivRes (al - bh) (ah - bl) else (0, 0, 1)
def hullIv (al ah bl bh : Int) : Int × Int × Int := if isIv al ah = true ∧ isIv bl bh = true then (min al bl, max ah bh, 0) else (0, 0, 1)
def commonIv (al ah bl bh : Int) : Int × Int × Int := if isIv al ah = true ∧ isIv bl bh = true then (if max al bl ≤ min ah bh then (max al bl, min ah bh, 0) else (0, 0, 4)) else (0, 0, 1)
def withinIv (al ah bl bh : Int) : Bool := isIv al ah && isIv bl bh && (decide (bl ≤ al) && decide (ah ≤ bh))
def cmpIv (al ah bl bh : Int) : Int × Int := if isIv al ah = true ∧ isIv bl bh = true then (if ah < bl then (-1, 0) else if bh < al then (1, 0) else (0, 0)) else (0, 1)
def scaleIv (al ah k : Int) : Int × Int × Int := if isIv al ah = true then (if inB k (-1000000) 1000000 = true then (if k < 0 then ivRes (ah * k) (al * k) else ivRes (al * k) (ah * k)) else (0, 0, 2)) else (0, 0, 1)
/-- a field of an Interval that is a value -/
theorem fld_lo (a b : Int) (w : World) : Sem.run Try.prog (Instr.field 25 (Value.agg #[.int .i64 a, .int .i64 b]) 0) w = .ok (.int .i64 a) w := by kernel_rfl
theorem fld_hi (a b : Int) (w : World) : Sem.run Try.prog (Instr.field 25 (Value.agg #[.int .i64 a, .int .i64 b]) 1) w = .ok (.int .i64 b) w := by kernel_rfl
theorem isIv_false {lo hi : Int} (h : isVal lo = true ∧ isVal hi = true) (hle : lo ≤ hi) : isIv lo hi = true := by simp [isIv, h.1, h.2, hle]

theorem i_IsInterval (lo hi : Int) (w : World) : Calls Try.prog 11 #[ivV lo hi] w fun en w' => en = .returned (.bool (isIv lo hi)) ∧ Below w.heap.size w w' := by
  go_enter Try.func11, Try.ntmps11
  go_wp2_with (go_at_call 27; refine (i_isValue _ _).mono ?_; rintro e w' ⟨rfl, rfl⟩)
  all_goals go_ret
  all_goals exact ⟨ret_bool (by simp [isIv, *]), by repeat (first | exact Below.refl _ _ | refine balloc ?_ _ | refine Below.drew ?_ | refine bdrewN ?_ _ | refine bto ?_ (Own.below (by assumption)) | refine bset ?_ (by first | (simp; done) | (simp; omega) | exact Own.le_w (by assumption) (by first | (simp; done) | (simp; omega))) _)⟩

theorem s_IsInterval (lo hi : Int) (w : World) : Calls Try.prog 25 #[ivV lo hi] w fun en w' => en = .returned (.bool (isIv lo hi)) ∧ Below w.heap.size w w' := by
  go_enter Try.func25, Try.ntmps25
  go_wp2_with (go_at_call 32; refine (s_l01Is _ _).mono ?_; rintro e w' ⟨rfl, rfl⟩)
  all_goals go_ret
  all_goals exact ⟨ret_bool (by simp [isIv, *]), by repeat (first | exact Below.refl _ _ | refine balloc ?_ _ | refine Below.drew ?_ | refine bdrewN ?_ _ | refine bto ?_ (Own.below (by assumption)) | refine bset ?_ (by first | (simp; done) | (simp; omega) | exact Own.le_w (by assumption) (by first | (simp; done) | (simp; omega))) _)⟩

theorem s_l02Result (lo hi : Int) (w : World) : Calls Try.prog 26 #[.int .i64 lo, .int .i64 hi] w fun en w' => en = .returned (ivT (ivRes lo hi)) ∧ Below w.heap.size w w' := by
  rcases Bool.eq_false_or_eq_true (isVal lo) with h1 | h1
  · rcases Bool.eq_false_or_eq_true (isVal hi) with h2 | h2
    · have hr : ivRes lo hi = (lo, hi, 0) := by simp [ivRes, h1, h2]
      rw [hr]; clear hr
      go_enter Try.func26, Try.ntmps26
      go_wp2_with (go_at_call 32; refine (s_l01Is _ _).mono ?_; rintro e w' ⟨rfl, rfl⟩)
      refine bodyPost_ret (v := ivT (lo, hi, 0)) (by simp [results, Try.results26, go_sem, *]) rfl ⟨rfl, ?_⟩
      repeat (first | exact Below.refl _ _ | refine balloc ?_ _ | refine Below.drew ?_ | refine bdrewN ?_ _ | refine bto ?_ (Own.below (by assumption)) | refine bset ?_ (by first | (simp; done) | (simp; omega) | exact Own.le_w (by assumption) (by first | (simp; done) | (simp; omega))) _)
    · have hr : ivRes lo hi = (0, 0, 2) := by simp [ivRes, h2]
      rw [hr]; clear hr
      go_enter Try.func26, Try.ntmps26
      go_wp2_with (go_at_call 32; refine (s_l01Is _ _).mono ?_; rintro e w' ⟨rfl, rfl⟩)
      refine bodyPost_ret (v := ivT (0, 0, 2)) (by simp [results, Try.results26, go_sem, *]) rfl ⟨rfl, ?_⟩
      repeat (first | exact Below.refl _ _ | refine balloc ?_ _ | refine Below.drew ?_ | refine bdrewN ?_ _ | refine bto ?_ (Own.below (by assumption)) | refine bset ?_ (by first | (simp; done) | (simp; omega) | exact Own.le_w (by assumption) (by first | (simp; done) | (simp; omega))) _)
  · have hr : ivRes lo hi = (0, 0, 2) := by simp [ivRes, h1]
    rw [hr]; clear hr
    go_enter Try.func26, Try.ntmps26
    go_wp2_with (go_at_call 32; refine (s_l01Is _ _).mono ?_; rintro e w' ⟨rfl, rfl⟩)
    refine bodyPost_ret (v := ivT (0, 0, 2)) (by simp [results, Try.results26, go_sem, *]) rfl ⟨rfl, ?_⟩
    repeat (first | exact Below.refl _ _ | refine balloc ?_ _ | refine Below.drew ?_ | refine bdrewN ?_ _ | refine bto ?_ (Own.below (by assumption)) | refine bset ?_ (by first | (simp; done) | (simp; omega) | exact Own.le_w (by assumption) (by first | (simp; done) | (simp; omega))) _)

theorem i_inRange (lo hi : Int) (hle : lo ≤ hi) (w : World) : Calls Try.prog 24 #[ivV lo hi] w fun en w' => en = .returned (ivT (ivRes lo hi)) ∧ Below w.heap.size w w' := by
  have hx : isIv lo hi = (isVal lo && isVal hi) := by simp [isIv, hle]
  rcases Bool.eq_false_or_eq_true (isIv lo hi) with h1 | h1
  · have hr : ivRes lo hi = (lo, hi, 0) := by rw [hx] at h1; simp [ivRes]; simpa using h1
    rw [hr]; clear hr hx
    go_enter Try.func24, Try.ntmps24
    go_wp2_with (go_at_call 11; refine (i_IsInterval _ _ _).mono ?_; rintro e w' ⟨rfl, hb⟩; have hr := New.join (by first | assumption | exact New.startD _ | exact New.startN _ _ | exact New.start _) hb; obtain ⟨rc, rf, rl, rl1, -, -, rn⟩ := hr.own.kept; replace hb := Own.join (by first | assumption | exact Own.alloc (by assumption) _ | exact Own.drew (by assumption) | exact Own.drew (Own.alloc (by assumption) _) | exact Own.alloc (Own.alloc (by assumption) _) _ | exact Own.alloc (Own.alloc (Own.alloc (by assumption) _) _) _ | exact Own.drewN (by assumption) _ | exact Own.drew (Own.start _) | exact Own.drewN (Own.start _) _ | exact Own.start _) hb; obtain ⟨hc, hf, hl, hl1, hl2, hl3, hn⟩ := hb.kept)
    refine bodyPost_ret (v := ivT (lo, hi, 0)) (by simp [results, Try.results24, go_sem, *]) rfl ⟨rfl, ?_⟩
    repeat (first | exact Below.refl _ _ | refine balloc ?_ _ | refine Below.drew ?_ | refine bdrewN ?_ _ | refine bto ?_ (Own.below (by assumption)) | refine bset ?_ (by first | (simp; done) | (simp; omega) | exact Own.le_w (by assumption) (by first | (simp; done) | (simp; omega))) _)
  · have hr : ivRes lo hi = (0, 0, 2) := by rw [hx] at h1; simp [ivRes]; simpa using h1
    rw [hr]; clear hr hx
    go_enter Try.func24, Try.ntmps24
    go_wp2_with (go_at_call 11; refine (i_IsInterval _ _ _).mono ?_; rintro e w' ⟨rfl, hb⟩; have hr := New.join (by first | assumption | exact New.startD _ | exact New.startN _ _ | exact New.start _) hb; obtain ⟨rc, rf, rl, rl1, -, -, rn⟩ := hr.own.kept; replace hb := Own.join (by first | assumption | exact Own.alloc (by assumption) _ | exact Own.drew (by assumption) | exact Own.drew (Own.alloc (by assumption) _) | exact Own.alloc (Own.alloc (by assumption) _) _ | exact Own.alloc (Own.alloc (Own.alloc (by assumption) _) _) _ | exact Own.drewN (by assumption) _ | exact Own.drew (Own.start _) | exact Own.drewN (Own.start _) _ | exact Own.start _) hb; obtain ⟨hc, hf, hl, hl1, hl2, hl3, hn⟩ := hb.kept)
    refine bodyPost_ret (v := ivT (0, 0, 2)) (by simp [results, Try.results24, go_sem, *]) rfl ⟨rfl, ?_⟩
    repeat (first | exact Below.refl _ _ | refine balloc ?_ _ | refine Below.drew ?_ | refine bdrewN ?_ _ | refine bto ?_ (Own.below (by assumption)) | refine bset ?_ (by first | (simp; done) | (simp; omega) | exact Own.le_w (by assumption) (by first | (simp; done) | (simp; omega))) _)

theorem i_plus (al ah bl bh : Int) (h1 : -1000000000000000 ≤ al ∧ al ≤ 1000000000000000) (h2 : -1000000000000000 ≤ ah ∧ ah ≤ 1000000000000000) (h3 : -1000000000000000 ≤ bl ∧ bl ≤ 1000000000000000) (h4 : -1000000000000000 ≤ bh ∧ bh ≤ 1000000000000000) (w : World) :
    Calls Try.prog 23 #[ivV al ah, ivV bl bh] w fun en w' => en = .returned (ivV (al + bl) (ah + bh)) ∧ Below w.heap.size w w' := by
  go_enter Try.func23, Try.ntmps23
  go_wp2
  refine bodyPost_ret (v := ivV (al + bl) (ah + bh)) (by simp [results, Try.results23, go_sem, *]) rfl ⟨rfl, ?_⟩
  repeat (first | exact Below.refl _ _ | refine balloc ?_ _ | refine Below.drew ?_ | refine bdrewN ?_ _ | refine bto ?_ (Own.below (by assumption)) | refine bset ?_ (by first | (simp; done) | (simp; omega) | exact Own.le_w (by assumption) (by first | (simp; done) | (simp; omega))) _)

theorem s_AddIntervals (al ah bl bh : Int) (w : World) : Calls Try.prog 8 #[ivV al ah, ivV bl bh] w fun en w' => en = .returned (ivT (addIv al ah bl bh)) ∧ Below w.heap.size w w' := by
  rcases Bool.eq_false_or_eq_true (isIv al ah) with h1 | h1
  · rcases Bool.eq_false_or_eq_true (isIv bl bh) with h2 | h2
    · have hr : addIv al ah bl bh = ivRes (al + bl) (ah + bh) := by simp [addIv, h1, h2]
      have g1 := isIv_iff.1 h1
      have g2 := isIv_iff.1 h2
      rw [hr]; clear hr
      go_enter Try.func8, Try.ntmps8
      go_wp2_with (first | (go_at_call 25; refine (s_IsInterval _ _ _).mono ?_; rintro e w' ⟨rfl, hb⟩; have hr := New.join (by first | assumption | exact New.startD _ | exact New.startN _ _ | exact New.start _) hb; obtain ⟨rc, rf, rl, rl1, -, -, rn⟩ := hr.own.kept; replace hb := Own.join (by first | assumption | exact Own.alloc (by assumption) _ | exact Own.drew (by assumption) | exact Own.drew (Own.alloc (by assumption) _) | exact Own.alloc (Own.alloc (by assumption) _) _ | exact Own.alloc (Own.alloc (Own.alloc (by assumption) _) _) _ | exact Own.drewN (by assumption) _ | exact Own.drew (Own.start _) | exact Own.drewN (Own.start _) _ | exact Own.start _) hb; obtain ⟨hc, hf, hl, hl1, hl2, hl3, hn⟩ := hb.kept) | (go_at_call 26; refine (s_l02Result _ _ _).mono ?_; rintro e w' ⟨rfl, hb⟩; have hr := New.join (by first | assumption | exact New.startD _ | exact New.startN _ _ | exact New.start _) hb; obtain ⟨rc, rf, rl, rl1, -, -, rn⟩ := hr.own.kept; replace hb := Own.join (by first | assumption | exact Own.alloc (by assumption) _ | exact Own.drew (by assumption) | exact Own.drew (Own.alloc (by assumption) _) | exact Own.alloc (Own.alloc (by assumption) _) _ | exact Own.alloc (Own.alloc (Own.alloc (by assumption) _) _) _ | exact Own.drewN (by assumption) _ | exact Own.drew (Own.start _) | exact Own.drewN (Own.start _) _ | exact Own.start _) hb; obtain ⟨hc, hf, hl, hl1, hl2, hl3, hn⟩ := hb.kept))
      refine bodyPost_ret (v := ivT (ivRes (al + bl) (ah + bh))) (by simp [results, Try.results8, go_sem, *]) rfl ⟨rfl, ?_⟩
      repeat (first | exact Below.refl _ _ | refine balloc ?_ _ | refine Below.drew ?_ | refine bdrewN ?_ _ | refine bto ?_ (Own.below (by assumption)) | refine bset ?_ (by first | (simp; done) | (simp; omega) | exact Own.le_w (by assumption) (by first | (simp; done) | (simp; omega))) _)
    · have hr : addIv al ah bl bh = (0, 0, 1) := by simp [addIv, h2]
      rw [hr]; clear hr
      go_enter Try.func8, Try.ntmps8
      go_wp2_with (go_at_call 25; refine (s_IsInterval _ _ _).mono ?_; rintro e w' ⟨rfl, hb⟩; have hr := New.join (by first | assumption | exact New.startD _ | exact New.startN _ _ | exact New.start _) hb; obtain ⟨rc, rf, rl, rl1, -, -, rn⟩ := hr.own.kept; replace hb := Own.join (by first | assumption | exact Own.alloc (by assumption) _ | exact Own.drew (by assumption) | exact Own.drew (Own.alloc (by assumption) _) | exact Own.alloc (Own.alloc (by assumption) _) _ | exact Own.alloc (Own.alloc (Own.alloc (by assumption) _) _) _ | exact Own.drewN (by assumption) _ | exact Own.drew (Own.start _) | exact Own.drewN (Own.start _) _ | exact Own.start _) hb; obtain ⟨hc, hf, hl, hl1, hl2, hl3, hn⟩ := hb.kept)
      refine bodyPost_ret (v := ivT (0, 0, 1)) (by simp [results, Try.results8, go_sem, *]) rfl ⟨rfl, ?_⟩
      repeat (first | exact Below.refl _ _ | refine balloc ?_ _ | refine Below.drew ?_ | refine bdrewN ?_ _ | refine bto ?_ (Own.below (by assumption)) | refine bset ?_ (by first | (simp; done) | (simp; omega) | exact Own.le_w (by assumption) (by first | (simp; done) | (simp; omega))) _)
  · have hr : addIv al ah bl bh = (0, 0, 1) := by simp [addIv, h1]
    rw [hr]; clear hr
    go_enter Try.func8, Try.ntmps8
    go_wp2_with (go_at_call 25; refine (s_IsInterval _ _ _).mono ?_; rintro e w' ⟨rfl, hb⟩; have hr := New.join (by first | assumption | exact New.startD _ | exact New.startN _ _ | exact New.start _) hb; obtain ⟨rc, rf, rl, rl1, -, -, rn⟩ := hr.own.kept; replace hb := Own.join (by first | assumption | exact Own.alloc (by assumption) _ | exact Own.drew (by assumption) | exact Own.drew (Own.alloc (by assumption) _) | exact Own.alloc (Own.alloc (by assumption) _) _ | exact Own.alloc (Own.alloc (Own.alloc (by assumption) _) _) _ | exact Own.drewN (by assumption) _ | exact Own.drew (Own.start _) | exact Own.drewN (Own.start _) _ | exact Own.start _) hb; obtain ⟨hc, hf, hl, hl1, hl2, hl3, hn⟩ := hb.kept)
    refine bodyPost_ret (v := ivT (0, 0, 1)) (by simp [results, Try.results8, go_sem, *]) rfl ⟨rfl, ?_⟩
    repeat (first | exact Below.refl _ _ | refine balloc ?_ _ | refine Below.drew ?_ | refine bdrewN ?_ _ | refine bto ?_ (Own.below (by assumption)) | refine bset ?_ (by first | (simp; done) | (simp; omega) | exact Own.le_w (by assumption) (by first | (simp; done) | (simp; omega))) _)

theorem i_AddIntervals (al ah bl bh : Int) (w : World) : Calls Try.prog 7 #[ivV al ah, ivV bl bh] w fun en w' => en = .returned (ivT (addIv al ah bl bh)) ∧ Below w.heap.size w w' := by
  rcases Bool.eq_false_or_eq_true (isIv al ah) with h1 | h1
  · rcases Bool.eq_false_or_eq_true (isIv bl bh) with h2 | h2
    · have hr : addIv al ah bl bh = ivRes (al + bl) (ah + bh) := by simp [addIv, h1, h2]
      have g1 := isIv_iff.1 h1
      have g2 := isIv_iff.1 h2
      rw [hr]; clear hr
      go_enter Try.func7, Try.ntmps7
      go_wp2_with (first | (go_at_call 11; refine (i_IsInterval _ _ _).mono ?_; rintro e w' ⟨rfl, hb⟩; have hr := New.join (by first | assumption | exact New.startD _ | exact New.startN _ _ | exact New.start _) hb; obtain ⟨rc, rf, rl, rl1, -, -, rn⟩ := hr.own.kept; replace hb := Own.join (by first | assumption | exact Own.alloc (by assumption) _ | exact Own.drew (by assumption) | exact Own.drew (Own.alloc (by assumption) _) | exact Own.alloc (Own.alloc (by assumption) _) _ | exact Own.alloc (Own.alloc (Own.alloc (by assumption) _) _) _ | exact Own.drewN (by assumption) _ | exact Own.drew (Own.start _) | exact Own.drewN (Own.start _) _ | exact Own.start _) hb; obtain ⟨hc, hf, hl, hl1, hl2, hl3, hn⟩ := hb.kept) | (go_at_call 23; refine (i_plus _ _ _ _ (by omega) (by omega) (by omega) (by omega) _).mono ?_; rintro e w' ⟨rfl, hb⟩; have hr := New.join (by first | assumption | exact New.startD _ | exact New.startN _ _ | exact New.start _) hb; obtain ⟨rc, rf, rl, rl1, -, -, rn⟩ := hr.own.kept; replace hb := Own.join (by first | assumption | exact Own.alloc (by assumption) _ | exact Own.drew (by assumption) | exact Own.drew (Own.alloc (by assumption) _) | exact Own.alloc (Own.alloc (by assumption) _) _ | exact Own.alloc (Own.alloc (Own.alloc (by assumption) _) _) _ | exact Own.drewN (by assumption) _ | exact Own.drew (Own.start _) | exact Own.drewN (Own.start _) _ | exact Own.start _) hb; obtain ⟨hc, hf, hl, hl1, hl2, hl3, hn⟩ := hb.kept) | (go_at_call 24; refine (i_inRange _ _ (by omega) _).mono ?_; rintro e w' ⟨rfl, hb⟩; have hr := New.join (by first | assumption | exact New.startD _ | exact New.startN _ _ | exact New.start _) hb; obtain ⟨rc, rf, rl, rl1, -, -, rn⟩ := hr.own.kept; replace hb := Own.join (by first | assumption | exact Own.alloc (by assumption) _ | exact Own.drew (by assumption) | exact Own.drew (Own.alloc (by assumption) _) | exact Own.alloc (Own.alloc (by assumption) _) _ | exact Own.alloc (Own.alloc (Own.alloc (by assumption) _) _) _ | exact Own.drewN (by assumption) _ | exact Own.drew (Own.start _) | exact Own.drewN (Own.start _) _ | exact Own.start _) hb; obtain ⟨hc, hf, hl, hl1, hl2, hl3, hn⟩ := hb.kept))
      refine bodyPost_ret (v := ivT (ivRes (al + bl) (ah + bh))) (by simp [results, Try.results7, go_sem, *]) rfl ⟨rfl, ?_⟩
      repeat (first | exact Below.refl _ _ | refine balloc ?_ _ | refine Below.drew ?_ | refine bdrewN ?_ _ | refine bto ?_ (Own.below (by assumption)) | refine bset ?_ (by first | (simp; done) | (simp; omega) | exact Own.le_w (by assumption) (by first | (simp; done) | (simp; omega))) _)
    · have hr : addIv al ah bl bh = (0, 0, 1) := by simp [addIv, h2]
      rw [hr]; clear hr
      go_enter Try.func7, Try.ntmps7
      go_wp2_with (go_at_call 11; refine (i_IsInterval _ _ _).mono ?_; rintro e w' ⟨rfl, hb⟩; have hr := New.join (by first | assumption | exact New.startD _ | exact New.startN _ _ | exact New.start _) hb; obtain ⟨rc, rf, rl, rl1, -, -, rn⟩ := hr.own.kept; replace hb := Own.join (by first | assumption | exact Own.alloc (by assumption) _ | exact Own.drew (by assumption) | exact Own.drew (Own.alloc (by assumption) _) | exact Own.alloc (Own.alloc (by assumption) _) _ | exact Own.alloc (Own.alloc (Own.alloc (by assumption) _) _) _ | exact Own.drewN (by assumption) _ | exact Own.drew (Own.start _) | exact Own.drewN (Own.start _) _ | exact Own.start _) hb; obtain ⟨hc, hf, hl, hl1, hl2, hl3, hn⟩ := hb.kept)
      refine bodyPost_ret (v := ivT (0, 0, 1)) (by simp [results, Try.results7, go_sem, *]) rfl ⟨rfl, ?_⟩
      repeat (first | exact Below.refl _ _ | refine balloc ?_ _ | refine Below.drew ?_ | refine bdrewN ?_ _ | refine bto ?_ (Own.below (by assumption)) | refine bset ?_ (by first | (simp; done) | (simp; omega) | exact Own.le_w (by assumption) (by first | (simp; done) | (simp; omega))) _)
  · have hr : addIv al ah bl bh = (0, 0, 1) := by simp [addIv, h1]
    rw [hr]; clear hr
    go_enter Try.func7, Try.ntmps7
    go_wp2_with (go_at_call 11; refine (i_IsInterval _ _ _).mono ?_; rintro e w' ⟨rfl, hb⟩; have hr := New.join (by first | assumption | exact New.startD _ | exact New.startN _ _ | exact New.start _) hb; obtain ⟨rc, rf, rl, rl1, -, -, rn⟩ := hr.own.kept; replace hb := Own.join (by first | assumption | exact Own.alloc (by assumption) _ | exact Own.drew (by assumption) | exact Own.drew (Own.alloc (by assumption) _) | exact Own.alloc (Own.alloc (by assumption) _) _ | exact Own.alloc (Own.alloc (Own.alloc (by assumption) _) _) _ | exact Own.drewN (by assumption) _ | exact Own.drew (Own.start _) | exact Own.drewN (Own.start _) _ | exact Own.start _) hb; obtain ⟨hc, hf, hl, hl1, hl2, hl3, hn⟩ := hb.kept)
    refine bodyPost_ret (v := ivT (0, 0, 1)) (by simp [results, Try.results7, go_sem, *]) rfl ⟨rfl, ?_⟩
    repeat (first | exact Below.refl _ _ | refine balloc ?_ _ | refine Below.drew ?_ | refine bdrewN ?_ _ | refine bto ?_ (Own.below (by assumption)) | refine bset ?_ (by first | (simp; done) | (simp; omega) | exact Own.le_w (by assumption) (by first | (simp; done) | (simp; omega))) _)

theorem s_SubtractIntervals (al ah bl bh : Int) (w : World) : Calls Try.prog 10 #[ivV al ah, ivV bl bh] w fun en w' => en = .returned (ivT (subIv al ah bl bh)) ∧ Below w.heap.size w w' := by
  rcases Bool.eq_false_or_eq_true (isIv al ah) with h1 | h1
  · rcases Bool.eq_false_or_eq_true (isIv bl bh) with h2 | h2
    · have hr : subIv al ah bl bh = ivRes (al - bh) (ah - bl) := by simp [subIv, h1, h2]
      have g1 := isIv_iff.1 h1
      have g2 := isIv_iff.1 h2
      rw [hr]; clear hr
      go_enter Try.func10, Try.ntmps10
      go_wp2_with (first | (go_at_call 25; refine (s_IsInterval _ _ _).mono ?_; rintro e w' ⟨rfl, hb⟩; have hr := New.join (by first | assumption | exact New.startD _ | exact New.startN _ _ | exact New.start _) hb; obtain ⟨rc, rf, rl, rl1, -, -, rn⟩ := hr.own.kept; replace hb := Own.join (by first | assumption | exact Own.alloc (by assumption) _ | exact Own.drew (by assumption) | exact Own.drew (Own.alloc (by assumption) _) | exact Own.alloc (Own.alloc (by assumption) _) _ | exact Own.alloc (Own.alloc (Own.alloc (by assumption) _) _) _ | exact Own.drewN (by assumption) _ | exact Own.drew (Own.start _) | exact Own.drewN (Own.start _) _ | exact Own.start _) hb; obtain ⟨hc, hf, hl, hl1, hl2, hl3, hn⟩ := hb.kept) | (go_at_call 26; refine (s_l02Result _ _ _).mono ?_; rintro e w' ⟨rfl, hb⟩; have hr := New.join (by first | assumption | exact New.startD _ | exact New.startN _ _ | exact New.start _) hb; obtain ⟨rc, rf, rl, rl1, -, -, rn⟩ := hr.own.kept; replace hb := Own.join (by first | assumption | exact Own.alloc (by assumption) _ | exact Own.drew (by assumption) | exact Own.drew (Own.alloc (by assumption) _) | exact Own.alloc (Own.alloc (by assumption) _) _ | exact Own.alloc (Own.alloc (Own.alloc (by assumption) _) _) _ | exact Own.drewN (by assumption) _ | exact Own.drew (Own.start _) | exact Own.drewN (Own.start _) _ | exact Own.start _) hb; obtain ⟨hc, hf, hl, hl1, hl2, hl3, hn⟩ := hb.kept))
      refine bodyPost_ret (v := ivT (ivRes (al - bh) (ah - bl))) (by simp [results, Try.results10, go_sem, *]) rfl ⟨rfl, ?_⟩
      repeat (first | exact Below.refl _ _ | refine balloc ?_ _ | refine Below.drew ?_ | refine bdrewN ?_ _ | refine bto ?_ (Own.below (by assumption)) | refine bset ?_ (by first | (simp; done) | (simp; omega) | exact Own.le_w (by assumption) (by first | (simp; done) | (simp; omega))) _)
    · have hr : subIv al ah bl bh = (0, 0, 1) := by simp [subIv, h2]
      rw [hr]; clear hr
      go_enter Try.func10, Try.ntmps10
      go_wp2_with (go_at_call 25; refine (s_IsInterval _ _ _).mono ?_; rintro e w' ⟨rfl, hb⟩; have hr := New.join (by first | assumption | exact New.startD _ | exact New.startN _ _ | exact New.start _) hb; obtain ⟨rc, rf, rl, rl1, -, -, rn⟩ := hr.own.kept; replace hb := Own.join (by first | assumption | exact Own.alloc (by assumption) _ | exact Own.drew (by assumption) | exact Own.drew (Own.alloc (by assumption) _) | exact Own.alloc (Own.alloc (by assumption) _) _ | exact Own.alloc (Own.alloc (Own.alloc (by assumption) _) _) _ | exact Own.drewN (by assumption) _ | exact Own.drew (Own.start _) | exact Own.drewN (Own.start _) _ | exact Own.start _) hb; obtain ⟨hc, hf, hl, hl1, hl2, hl3, hn⟩ := hb.kept)
      refine bodyPost_ret (v := ivT (0, 0, 1)) (by simp [results, Try.results10, go_sem, *]) rfl ⟨rfl, ?_⟩
      repeat (first | exact Below.refl _ _ | refine balloc ?_ _ | refine Below.drew ?_ | refine bdrewN ?_ _ | refine bto ?_ (Own.below (by assumption)) | refine bset ?_ (by first | (simp; done) | (simp; omega) | exact Own.le_w (by assumption) (by first | (simp; done) | (simp; omega))) _)
  · have hr : subIv al ah bl bh = (0, 0, 1) := by simp [subIv, h1]
    rw [hr]; clear hr
    go_enter Try.func10, Try.ntmps10
    go_wp2_with (go_at_call 25; refine (s_IsInterval _ _ _).mono ?_; rintro e w' ⟨rfl, hb⟩; have hr := New.join (by first | assumption | exact New.startD _ | exact New.startN _ _ | exact New.start _) hb; obtain ⟨rc, rf, rl, rl1, -, -, rn⟩ := hr.own.kept; replace hb := Own.join (by first | assumption | exact Own.alloc (by assumption) _ | exact Own.drew (by assumption) | exact Own.drew (Own.alloc (by assumption) _) | exact Own.alloc (Own.alloc (by assumption) _) _ | exact Own.alloc (Own.alloc (Own.alloc (by assumption) _) _) _ | exact Own.drewN (by assumption) _ | exact Own.drew (Own.start _) | exact Own.drewN (Own.start _) _ | exact Own.start _) hb; obtain ⟨hc, hf, hl, hl1, hl2, hl3, hn⟩ := hb.kept)
    refine bodyPost_ret (v := ivT (0, 0, 1)) (by simp [results, Try.results10, go_sem, *]) rfl ⟨rfl, ?_⟩
    repeat (first | exact Below.refl _ _ | refine balloc ?_ _ | refine Below.drew ?_ | refine bdrewN ?_ _ | refine bto ?_ (Own.below (by assumption)) | refine bset ?_ (by first | (simp; done) | (simp; omega) | exact Own.le_w (by assumption) (by first | (simp; done) | (simp; omega))) _)

theorem i_SubtractIntervals (al ah bl bh : Int) (w : World) : Calls Try.prog 9 #[ivV al ah, ivV bl bh] w fun en w' => en = .returned (ivT (subIv al ah bl bh)) ∧ Below w.heap.size w w' := by
  rcases Bool.eq_false_or_eq_true (isIv al ah) with h1 | h1
  · rcases Bool.eq_false_or_eq_true (isIv bl bh) with h2 | h2
    · have hr : subIv al ah bl bh = ivRes (al + -bh) (ah + -bl) := by simp [subIv, h1, h2, Int.sub_eq_add_neg]
      have g1 := isIv_iff.1 h1
      have g2 := isIv_iff.1 h2
      rw [hr]; clear hr
      go_enter Try.func9, Try.ntmps9
      go_wp2_with (first | (go_at_call 11; refine (i_IsInterval _ _ _).mono ?_; rintro e w' ⟨rfl, hb⟩; have hr := New.join (by first | assumption | exact New.startD _ | exact New.startN _ _ | exact New.start _) hb; obtain ⟨rc, rf, rl, rl1, -, -, rn⟩ := hr.own.kept; replace hb := Own.join (by first | assumption | exact Own.alloc (by assumption) _ | exact Own.drew (by assumption) | exact Own.drew (Own.alloc (by assumption) _) | exact Own.alloc (Own.alloc (by assumption) _) _ | exact Own.alloc (Own.alloc (Own.alloc (by assumption) _) _) _ | exact Own.drewN (by assumption) _ | exact Own.drew (Own.start _) | exact Own.drewN (Own.start _) _ | exact Own.start _) hb; obtain ⟨hc, hf, hl, hl1, hl2, hl3, hn⟩ := hb.kept) | (go_at_call 23; refine (i_plus _ _ _ _ (by omega) (by omega) (by omega) (by omega) _).mono ?_; rintro e w' ⟨rfl, hb⟩; have hr := New.join (by first | assumption | exact New.startD _ | exact New.startN _ _ | exact New.start _) hb; obtain ⟨rc, rf, rl, rl1, -, -, rn⟩ := hr.own.kept; replace hb := Own.join (by first | assumption | exact Own.alloc (by assumption) _ | exact Own.drew (by assumption) | exact Own.drew (Own.alloc (by assumption) _) | exact Own.alloc (Own.alloc (by assumption) _) _ | exact Own.alloc (Own.alloc (Own.alloc (by assumption) _) _) _ | exact Own.drewN (by assumption) _ | exact Own.drew (Own.start _) | exact Own.drewN (Own.start _) _ | exact Own.start _) hb; obtain ⟨hc, hf, hl, hl1, hl2, hl3, hn⟩ := hb.kept) | (go_at_call 24; refine (i_inRange _ _ (by omega) _).mono ?_; rintro e w' ⟨rfl, hb⟩; have hr := New.join (by first | assumption | exact New.startD _ | exact New.startN _ _ | exact New.start _) hb; obtain ⟨rc, rf, rl, rl1, -, -, rn⟩ := hr.own.kept; replace hb := Own.join (by first | assumption | exact Own.alloc (by assumption) _ | exact Own.drew (by assumption) | exact Own.drew (Own.alloc (by assumption) _) | exact Own.alloc (Own.alloc (by assumption) _) _ | exact Own.alloc (Own.alloc (Own.alloc (by assumption) _) _) _ | exact Own.drewN (by assumption) _ | exact Own.drew (Own.start _) | exact Own.drewN (Own.start _) _ | exact Own.start _) hb; obtain ⟨hc, hf, hl, hl1, hl2, hl3, hn⟩ := hb.kept))
      refine bodyPost_ret (v := ivT (ivRes (al + -bh) (ah + -bl))) (by simp [results, Try.results9, go_sem, *]) rfl ⟨rfl, ?_⟩
      repeat (first | exact Below.refl _ _ | refine balloc ?_ _ | refine Below.drew ?_ | refine bdrewN ?_ _ | refine bto ?_ (Own.below (by assumption)) | refine bset ?_ (by first | (simp; done) | (simp; omega) | exact Own.le_w (by assumption) (by first | (simp; done) | (simp; omega))) _)
    · have hr : subIv al ah bl bh = (0, 0, 1) := by simp [subIv, h2]
      rw [hr]; clear hr
      go_enter Try.func9, Try.ntmps9
      go_wp2_with (go_at_call 11; refine (i_IsInterval _ _ _).mono ?_; rintro e w' ⟨rfl, hb⟩; have hr := New.join (by first | assumption | exact New.startD _ | exact New.startN _ _ | exact New.start _) hb; obtain ⟨rc, rf, rl, rl1, -, -, rn⟩ := hr.own.kept; replace hb := Own.join (by first | assumption | exact Own.alloc (by assumption) _ | exact Own.drew (by assumption) | exact Own.drew (Own.alloc (by assumption) _) | exact Own.alloc (Own.alloc (by assumption) _) _ | exact Own.alloc (Own.alloc (Own.alloc (by assumption) _) _) _ | exact Own.drewN (by assumption) _ | exact Own.drew (Own.start _) | exact Own.drewN (Own.start _) _ | exact Own.start _) hb; obtain ⟨hc, hf, hl, hl1, hl2, hl3, hn⟩ := hb.kept)
      refine bodyPost_ret (v := ivT (0, 0, 1)) (by simp [results, Try.results9, go_sem, *]) rfl ⟨rfl, ?_⟩
      repeat (first | exact Below.refl _ _ | refine balloc ?_ _ | refine Below.drew ?_ | refine bdrewN ?_ _ | refine bto ?_ (Own.below (by assumption)) | refine bset ?_ (by first | (simp; done) | (simp; omega) | exact Own.le_w (by assumption) (by first | (simp; done) | (simp; omega))) _)
  · have hr : subIv al ah bl bh = (0, 0, 1) := by simp [subIv, h1]
    rw [hr]; clear hr
    go_enter Try.func9, Try.ntmps9
    go_wp2_with (go_at_call 11; refine (i_IsInterval _ _ _).mono ?_; rintro e w' ⟨rfl, hb⟩; have hr := New.join (by first | assumption | exact New.startD _ | exact New.startN _ _ | exact New.start _) hb; obtain ⟨rc, rf, rl, rl1, -, -, rn⟩ := hr.own.kept; replace hb := Own.join (by first | assumption | exact Own.alloc (by assumption) _ | exact Own.drew (by assumption) | exact Own.drew (Own.alloc (by assumption) _) | exact Own.alloc (Own.alloc (by assumption) _) _ | exact Own.alloc (Own.alloc (Own.alloc (by assumption) _) _) _ | exact Own.drewN (by assumption) _ | exact Own.drew (Own.start _) | exact Own.drewN (Own.start _) _ | exact Own.start _) hb; obtain ⟨hc, hf, hl, hl1, hl2, hl3, hn⟩ := hb.kept)
    refine bodyPost_ret (v := ivT (0, 0, 1)) (by simp [results, Try.results9, go_sem, *]) rfl ⟨rfl, ?_⟩
    repeat (first | exact Below.refl _ _ | refine balloc ?_ _ | refine Below.drew ?_ | refine bdrewN ?_ _ | refine bto ?_ (Own.below (by assumption)) | refine bset ?_ (by first | (simp; done) | (simp; omega) | exact Own.le_w (by assumption) (by first | (simp; done) | (simp; omega))) _)

end Go.Proofs.Ytfhliikfnhggpaa
