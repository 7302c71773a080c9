/- Contracts and lemmas for the proofs of this seat: En2. -/
import Derived.Test.YtafbmhncmbcpjaaBase
import Derived.Test.YtafbmhncmbcpjaaNum
import Derived.Test.YtafbmhncmbcpjaaIv
import Derived.Test.YtafbmhncmbcpjaaIv2
import Derived.Test.YtafbmhncmbcpjaaScale
import Derived.Test.YtafbmhncmbcpjaaDiv
import Derived.Test.YtafbmhncmbcpjaaRoot
import Derived.Test.YtafbmhncmbcpjaaEn
import Derived.Test.YtafbmhncmbcpjaaSeg
import Derived.Lib.Hide
import Derived.BigQuiet
import Derived.Deep.QuietTactic
import Derived.Deep.RegionHeld3
namespace Go.Proofs.Ytafbmhncmbcpjaa
open Go.RowKit
set_option maxHeartbeats 2000000
set_option linter.unusedVariables false
set_option linter.unusedSimpArgs false

attribute [local go_sem] lt_2 lt_3 lt_4 lt_5 lt_6
def chLo (n r d : Int) : Int := -19612 * r - 2 * d * n
def chHi (n r c : Int) : Int := -19612 * r - 2 * c * n
theorem ch_bd {n r d : Int} (h1 : 1 ≤ n ∧ n ≤ 200000) (h2 : -100000 ≤ r ∧ r ≤ 100000) (h3 : 0 ≤ d ∧ d ≤ 20000) : -10000000000 ≤ chLo n r d ∧ chLo n r d ≤ 10000000000 ∧ -8000000000 ≤ 2 * d * n ∧ 2 * d * n ≤ 8000000000 := by
  have h := mul_bd (a := 2 * d) (k := n) 40000 200000 (by omega) (by omega)
  simp only [Nat.reduceMul] at h
  unfold chLo; omega
theorem chHi_eq (n r c : Int) : chHi n r c = chLo n r c := rfl
theorem ch_le {n r c d : Int} (h1 : 1 ≤ n) (h : c ≤ d) : chLo n r d ≤ chHi n r c := by
  have := Int.mul_le_mul_of_nonneg_right (show 2 * c ≤ 2 * d by omega) (show (0 : Int) ≤ n by omega)
  unfold chLo chHi; omega
def changeR (k n r c d e f : Int) : Int × Int × Int := if segOk k n r c d e f = true then (chLo n r d, chHi n r c, 0) else (0, 0, 1)
def passV (k n r c d e f a b : Int) : Int × Int :=
  if segOk k n r c d e f = true ∧ isEn a b = true then (if 0 ≤ a + chLo n r d then (2, 0) else if b + chHi n r c < 0 then (0, 0) else (1, 0)) else (0, 1)
def enCheck (lo hi : Int) : Int × Int × Int := if lo < 0 then (0, 0, 5) else if 10000000000 < hi then (0, 0, 3) else (lo, hi, 0)
def enAfter (k n r c d e f a b : Int) : Int × Int × Int :=
  if segOk k n r c d e f = true ∧ isEn a b = true then enCheck (a + chLo n r d) (b + chHi n r c) else (0, 0, 1)
def speedR (a b : Int) : Int × Int × Int := if isEn a b = true then (rootN a, rootUpN b, 0) else (0, 0, 1)

theorem i_change (k n r c d e f : Int) (h : segOk k n r c d e f = true) (w : World) : Calls Try.prog 116 #[segV k n r c d e f] w fun en w' => en = .returned (ivV (chLo n r d) (chHi n r c)) ∧ Below w.heap.size w w' := by
  have hb := segOk_bd h
  have p1 := ch_bd (n := n) (r := r) (d := d) (by omega) (by omega) (by omega)
  have p2 := ch_bd (n := n) (r := r) (d := c) (by omega) (by omega) (by omega)
  have w1 : wrap64 (2 * d * n) = 2 * d * n := by unfold wrap64; omega
  have w2 : wrap64 (2 * c * n) = 2 * c * n := by unfold wrap64; omega
  clear h
  unfold chLo chHi
  go_enter Try.func116, Try.ntmps116
  go_wp2
  refine bodyPost_ret (v := ivV (-19612 * r - 2 * d * n) (-19612 * r - 2 * c * n)) (by simp [results, Try.results116, go_sem, *]) rfl ⟨rfl, ?_⟩
  repeat (first | exact Below.refl _ _ | refine balloc ?_ _ | refine Below.drew ?_ | refine bdrewN ?_ _ | refine bto ?_ (Own.below (by assumption)) | refine bset ?_ (by first | (simp; done) | (simp; omega) | exact Own.le_w (by assumption) (by first | (simp; done) | (simp; omega))) _)

theorem s_l06Change (k n r c d e f : Int) (h : segOk k n r c d e f = true) (w : World) : Calls Try.prog 77 #[segV k n r c d e f] w fun en w' => en = .returned (ivV (chLo n r d) (chHi n r c)) ∧ Below w.heap.size w w' := by
  have hb := segOk_bd h
  have p1 := ch_bd (n := n) (r := r) (d := d) (by omega) (by omega) (by omega)
  have p2 := ch_bd (n := n) (r := r) (d := c) (by omega) (by omega) (by omega)
  have w1 : wrap64 (2 * d * n) = 2 * d * n := by unfold wrap64; omega
  have w2 : wrap64 (2 * c * n) = 2 * c * n := by unfold wrap64; omega
  clear h
  unfold chLo chHi
  go_enter Try.func77, Try.ntmps77
  go_wp2
  refine bodyPost_ret (v := ivV (-19612 * r - 2 * d * n) (-19612 * r - 2 * c * n)) (by simp [results, Try.results77, go_sem, *]) rfl ⟨rfl, ?_⟩
  repeat (first | exact Below.refl _ _ | refine balloc ?_ _ | refine Below.drew ?_ | refine bdrewN ?_ _ | refine bto ?_ (Own.below (by assumption)) | refine bset ?_ (by first | (simp; done) | (simp; omega) | exact Own.le_w (by assumption) (by first | (simp; done) | (simp; omega))) _)

theorem s_l06Sum (al ah bl bh : Int) (h1 : -1000000000000000 ≤ al ∧ al ≤ 1000000000000000) (h2 : -1000000000000000 ≤ ah ∧ ah ≤ 1000000000000000) (h3 : -1000000000000000 ≤ bl ∧ bl ≤ 1000000000000000) (h4 : -1000000000000000 ≤ bh ∧ bh ≤ 1000000000000000) (w : World) :
    Calls Try.prog 76 #[ivV al ah, ivV bl bh] w fun en w' => en = .returned (ivV (al + bl) (ah + bh)) ∧ Below w.heap.size w w' := by
  go_enter Try.func76, Try.ntmps76
  go_wp2
  refine bodyPost_ret (v := ivV (al + bl) (ah + bh)) (by simp [results, Try.results76, go_sem, *]) rfl ⟨rfl, ?_⟩
  repeat (first | exact Below.refl _ _ | refine balloc ?_ _ | refine Below.drew ?_ | refine bdrewN ?_ _ | refine bto ?_ (Own.below (by assumption)) | refine bset ?_ (by first | (simp; done) | (simp; omega) | exact Own.le_w (by assumption) (by first | (simp; done) | (simp; omega))) _)

theorem i_ChangeOf (k n r c d e f : Int) (w : World) : Calls Try.prog 66 #[segV k n r c d e f] w fun en w' => en = .returned (ivT (changeR k n r c d e f)) ∧ Below w.heap.size w w' := by
  rcases Bool.eq_false_or_eq_true (segOk k n r c d e f) with h1 | h1
  · have hr : changeR k n r c d e f = (chLo n r d, chHi n r c, 0) := by unfold changeR; rw [if_pos h1]
    rw [hr]; clear hr
    (go_enter Try.func66, Try.ntmps66; go_wp2_with (first | (go_at_call 78; refine (i_IsSegment _ _ _ _ _ _ _ _).mono ?_; rintro e w' ⟨rfl, hb⟩; have hr := New.join (by first | assumption | exact New.startD _ | exact New.startN _ _ | exact New.start _) hb; obtain ⟨rc, rf, rl, rl1, -, -, rn⟩ := hr.own.kept; replace hb := Own.join (by first | assumption | exact Own.alloc (by assumption) _ | exact Own.drew (by assumption) | exact Own.drew (Own.alloc (by assumption) _) | exact Own.alloc (Own.alloc (by assumption) _) _ | exact Own.alloc (Own.alloc (Own.alloc (by assumption) _) _) _ | exact Own.drewN (by assumption) _ | exact Own.drew (Own.start _) | exact Own.drewN (Own.start _) _ | exact Own.start _) hb; obtain ⟨hc, hf, hl, hl1, hl2, hl3, hn⟩ := hb.kept) | (go_at_call 116; refine (i_change _ _ _ _ _ _ _ h1 _).mono ?_; rintro e w' ⟨rfl, hb⟩; have hr := New.join (by first | assumption | exact New.startD _ | exact New.startN _ _ | exact New.start _) hb; obtain ⟨rc, rf, rl, rl1, -, -, rn⟩ := hr.own.kept; replace hb := Own.join (by first | assumption | exact Own.alloc (by assumption) _ | exact Own.drew (by assumption) | exact Own.drew (Own.alloc (by assumption) _) | exact Own.alloc (Own.alloc (by assumption) _) _ | exact Own.alloc (Own.alloc (Own.alloc (by assumption) _) _) _ | exact Own.drewN (by assumption) _ | exact Own.drew (Own.start _) | exact Own.drewN (Own.start _) _ | exact Own.start _) hb; obtain ⟨hc, hf, hl, hl1, hl2, hl3, hn⟩ := hb.kept)); refine bodyPost_ret (v := ivT (chLo n r d, chHi n r c, 0)) (by simp [results, Try.results66, go_sem, *]) rfl ⟨rfl, ?_⟩; repeat (first | exact Below.refl _ _ | refine balloc ?_ _ | refine Below.drew ?_ | refine bdrewN ?_ _ | refine bto ?_ (Own.below (by assumption)) | refine bset ?_ (by first | (simp; done) | (simp; omega) | exact Own.le_w (by assumption) (by first | (simp; done) | (simp; omega))) _))
  · have hr : changeR k n r c d e f = (0, 0, 1) := by unfold changeR; rw [if_neg (by simp [h1])]
    rw [hr]; clear hr
    (go_enter Try.func66, Try.ntmps66; go_wp2_with (first | (go_at_call 78; refine (i_IsSegment _ _ _ _ _ _ _ _).mono ?_; rintro e w' ⟨rfl, hb⟩; have hr := New.join (by first | assumption | exact New.startD _ | exact New.startN _ _ | exact New.start _) hb; obtain ⟨rc, rf, rl, rl1, -, -, rn⟩ := hr.own.kept; replace hb := Own.join (by first | assumption | exact Own.alloc (by assumption) _ | exact Own.drew (by assumption) | exact Own.drew (Own.alloc (by assumption) _) | exact Own.alloc (Own.alloc (by assumption) _) _ | exact Own.alloc (Own.alloc (Own.alloc (by assumption) _) _) _ | exact Own.drewN (by assumption) _ | exact Own.drew (Own.start _) | exact Own.drewN (Own.start _) _ | exact Own.start _) hb; obtain ⟨hc, hf, hl, hl1, hl2, hl3, hn⟩ := hb.kept)); refine bodyPost_ret (v := ivT (0, 0, 1)) (by simp [results, Try.results66, go_sem, *]) rfl ⟨rfl, ?_⟩; repeat (first | exact Below.refl _ _ | refine balloc ?_ _ | refine Below.drew ?_ | refine bdrewN ?_ _ | refine bto ?_ (Own.below (by assumption)) | refine bset ?_ (by first | (simp; done) | (simp; omega) | exact Own.le_w (by assumption) (by first | (simp; done) | (simp; omega))) _))

theorem i_SpeedOf (a b : Int) (w : World) : Calls Try.prog 46 #[ivV a b] w fun en w' => en = .returned (ivT (speedR a b)) ∧ Below w.heap.size w w' := by
  rcases Bool.eq_false_or_eq_true (isEn a b) with h1 | h1
  · have hr : speedR a b = (rootN a, rootUpN b, 0) := by unfold speedR; rw [if_pos h1]
    have g := isEn_iff.1 h1
    rw [hr]; clear hr
    (go_enter Try.func46, Try.ntmps46; all_goals (go_upto_region 3 with (first | (go_at_call 48; refine (i_IsEnergy _ _ _).mono ?_; rintro e w' ⟨rfl, hb⟩; have hr := New.join (by first | assumption | exact New.startD _ | exact New.startN _ _ | exact New.start _) hb; obtain ⟨rc, rf, rl, rl1, -, -, rn⟩ := hr.own.kept; replace hb := Own.join (by first | assumption | exact Own.alloc (by assumption) _ | exact Own.drew (by assumption) | exact Own.drew (Own.alloc (by assumption) _) | exact Own.alloc (Own.alloc (by assumption) _) _ | exact Own.alloc (Own.alloc (Own.alloc (by assumption) _) _) _ | exact Own.drewN (by assumption) _ | exact Own.drew (Own.start _) | exact Own.drewN (Own.start _) _ | exact Own.start _) hb; obtain ⟨hc, hf, hl, hl1, hl2, hl3, hn⟩ := hb.kept) | (go_at_call 89; refine (i_root _ (by omega) (by omega) _).mono ?_; rintro e w' ⟨rfl, rfl⟩) | (go_at_call 90; refine (i_rootUp _ (by omega) (by omega) _).mono ?_; rintro e w' ⟨rfl, rfl⟩)); go_region_held3 (fun w' => w'.cell? ⟨w.heap.size, 0, none⟩ = some (.int .i64 a) ∧ w'.cell? ⟨w.heap.size, 1, none⟩ = some (.int .i64 b)) ((first | (go_simp; done) | go_keep)) (first | (go_at_call 48; refine (i_IsEnergy _ _ _).mono ?_; rintro e w' ⟨rfl, hb⟩; have hr := New.join (by first | assumption | exact New.startD _ | exact New.startN _ _ | exact New.start _) hb; obtain ⟨rc, rf, rl, rl1, -, -, rn⟩ := hr.own.kept; replace hb := Own.join (by first | assumption | exact Own.alloc (by assumption) _ | exact Own.drew (by assumption) | exact Own.drew (Own.alloc (by assumption) _) | exact Own.alloc (Own.alloc (by assumption) _) _ | exact Own.alloc (Own.alloc (Own.alloc (by assumption) _) _) _ | exact Own.drewN (by assumption) _ | exact Own.drew (Own.start _) | exact Own.drewN (Own.start _) _ | exact Own.start _) hb; obtain ⟨hc, hf, hl, hl1, hl2, hl3, hn⟩ := hb.kept) | (go_at_call 89; refine (i_root _ (by omega) (by omega) _).mono ?_; rintro e w' ⟨rfl, rfl⟩) | (go_at_call 90; refine (i_rootUp _ (by omega) (by omega) _).mono ?_; rintro e w' ⟨rfl, rfl⟩))); all_goals (go_wp2_with (first | (go_at_call 48; refine (i_IsEnergy _ _ _).mono ?_; rintro e w' ⟨rfl, hb⟩; have hr := New.join (by first | assumption | exact New.startD _ | exact New.startN _ _ | exact New.start _) hb; obtain ⟨rc, rf, rl, rl1, -, -, rn⟩ := hr.own.kept; replace hb := Own.join (by first | assumption | exact Own.alloc (by assumption) _ | exact Own.drew (by assumption) | exact Own.drew (Own.alloc (by assumption) _) | exact Own.alloc (Own.alloc (by assumption) _) _ | exact Own.alloc (Own.alloc (Own.alloc (by assumption) _) _) _ | exact Own.drewN (by assumption) _ | exact Own.drew (Own.start _) | exact Own.drewN (Own.start _) _ | exact Own.start _) hb; obtain ⟨hc, hf, hl, hl1, hl2, hl3, hn⟩ := hb.kept) | (go_at_call 89; refine (i_root _ (by omega) (by omega) _).mono ?_; rintro e w' ⟨rfl, rfl⟩) | (go_at_call 90; refine (i_rootUp _ (by omega) (by omega) _).mono ?_; rintro e w' ⟨rfl, rfl⟩)); refine bodyPost_ret (v := ivT (rootN a, rootUpN b, 0)) (by simp [results, Try.results46, go_sem, *]) rfl ⟨rfl, ?_⟩; repeat (first | exact Below.refl _ _ | refine balloc ?_ _ | refine Below.drew ?_ | refine bdrewN ?_ _ | refine bto ?_ (Own.below (by assumption)) | refine bset ?_ (by first | (simp; done) | (simp; omega) | exact Own.le_w (by assumption) (by first | (simp; done) | (simp; omega))) _)))
  · have hr : speedR a b = (0, 0, 1) := by unfold speedR; rw [if_neg (by simp [h1])]
    rw [hr]; clear hr
    (go_enter Try.func46, Try.ntmps46; go_wp2_with (go_at_call 48; refine (i_IsEnergy _ _ _).mono ?_; rintro e w' ⟨rfl, hb⟩; have hr := New.join (by first | assumption | exact New.startD _ | exact New.startN _ _ | exact New.start _) hb; obtain ⟨rc, rf, rl, rl1, -, -, rn⟩ := hr.own.kept; replace hb := Own.join (by first | assumption | exact Own.alloc (by assumption) _ | exact Own.drew (by assumption) | exact Own.drew (Own.alloc (by assumption) _) | exact Own.alloc (Own.alloc (by assumption) _) _ | exact Own.alloc (Own.alloc (Own.alloc (by assumption) _) _) _ | exact Own.drewN (by assumption) _ | exact Own.drew (Own.start _) | exact Own.drewN (Own.start _) _ | exact Own.start _) hb; obtain ⟨hc, hf, hl, hl1, hl2, hl3, hn⟩ := hb.kept); refine bodyPost_ret (v := ivT (0, 0, 1)) (by simp [results, Try.results46, go_sem, *]) rfl ⟨rfl, ?_⟩; repeat (first | exact Below.refl _ _ | refine balloc ?_ _ | refine Below.drew ?_ | refine bdrewN ?_ _ | refine bto ?_ (Own.below (by assumption)) | refine bset ?_ (by first | (simp; done) | (simp; omega) | exact Own.le_w (by assumption) (by first | (simp; done) | (simp; omega))) _))

theorem s_SpeedOf (a b : Int) (w : World) : Calls Try.prog 47 #[ivV a b] w fun en w' => en = .returned (ivT (speedR a b)) ∧ Below w.heap.size w w' := by
  rcases Bool.eq_false_or_eq_true (isEn a b) with h1 | h1
  · have hr : speedR a b = (rootN a, rootUpN b, 0) := by unfold speedR; rw [if_pos h1]
    have g := isEn_iff.1 h1
    rw [hr]; clear hr
    (go_enter Try.func47, Try.ntmps47; all_goals (go_upto_region 3 with (first | (go_at_call 74; refine (s_IsEnergy _ _ _).mono ?_; rintro e w' ⟨rfl, hb⟩; have hr := New.join (by first | assumption | exact New.startD _ | exact New.startN _ _ | exact New.start _) hb; obtain ⟨rc, rf, rl, rl1, -, -, rn⟩ := hr.own.kept; replace hb := Own.join (by first | assumption | exact Own.alloc (by assumption) _ | exact Own.drew (by assumption) | exact Own.drew (Own.alloc (by assumption) _) | exact Own.alloc (Own.alloc (by assumption) _) _ | exact Own.alloc (Own.alloc (Own.alloc (by assumption) _) _) _ | exact Own.drewN (by assumption) _ | exact Own.drew (Own.start _) | exact Own.drewN (Own.start _) _ | exact Own.start _) hb; obtain ⟨hc, hf, hl, hl1, hl2, hl3, hn⟩ := hb.kept) | (go_at_call 92; refine (s_l01Root _ (by omega) (by omega) _).mono ?_; rintro e w' ⟨rfl, rfl⟩) | (go_at_call 109; refine (s_l01RootUp _ (by omega) (by omega) _).mono ?_; rintro e w' ⟨rfl, rfl⟩)); go_region_held3 (fun w' => w'.cell? ⟨w.heap.size, 0, none⟩ = some (.int .i64 a) ∧ w'.cell? ⟨w.heap.size, 1, none⟩ = some (.int .i64 b)) ((first | (go_simp; done) | go_keep)) (first | (go_at_call 74; refine (s_IsEnergy _ _ _).mono ?_; rintro e w' ⟨rfl, hb⟩; have hr := New.join (by first | assumption | exact New.startD _ | exact New.startN _ _ | exact New.start _) hb; obtain ⟨rc, rf, rl, rl1, -, -, rn⟩ := hr.own.kept; replace hb := Own.join (by first | assumption | exact Own.alloc (by assumption) _ | exact Own.drew (by assumption) | exact Own.drew (Own.alloc (by assumption) _) | exact Own.alloc (Own.alloc (by assumption) _) _ | exact Own.alloc (Own.alloc (Own.alloc (by assumption) _) _) _ | exact Own.drewN (by assumption) _ | exact Own.drew (Own.start _) | exact Own.drewN (Own.start _) _ | exact Own.start _) hb; obtain ⟨hc, hf, hl, hl1, hl2, hl3, hn⟩ := hb.kept) | (go_at_call 92; refine (s_l01Root _ (by omega) (by omega) _).mono ?_; rintro e w' ⟨rfl, rfl⟩) | (go_at_call 109; refine (s_l01RootUp _ (by omega) (by omega) _).mono ?_; rintro e w' ⟨rfl, rfl⟩))); all_goals (go_wp2_with (first | (go_at_call 74; refine (s_IsEnergy _ _ _).mono ?_; rintro e w' ⟨rfl, hb⟩; have hr := New.join (by first | assumption | exact New.startD _ | exact New.startN _ _ | exact New.start _) hb; obtain ⟨rc, rf, rl, rl1, -, -, rn⟩ := hr.own.kept; replace hb := Own.join (by first | assumption | exact Own.alloc (by assumption) _ | exact Own.drew (by assumption) | exact Own.drew (Own.alloc (by assumption) _) | exact Own.alloc (Own.alloc (by assumption) _) _ | exact Own.alloc (Own.alloc (Own.alloc (by assumption) _) _) _ | exact Own.drewN (by assumption) _ | exact Own.drew (Own.start _) | exact Own.drewN (Own.start _) _ | exact Own.start _) hb; obtain ⟨hc, hf, hl, hl1, hl2, hl3, hn⟩ := hb.kept) | (go_at_call 92; refine (s_l01Root _ (by omega) (by omega) _).mono ?_; rintro e w' ⟨rfl, rfl⟩) | (go_at_call 109; refine (s_l01RootUp _ (by omega) (by omega) _).mono ?_; rintro e w' ⟨rfl, rfl⟩)); refine bodyPost_ret (v := ivT (rootN a, rootUpN b, 0)) (by simp [results, Try.results47, go_sem, *]) rfl ⟨rfl, ?_⟩; repeat (first | exact Below.refl _ _ | refine balloc ?_ _ | refine Below.drew ?_ | refine bdrewN ?_ _ | refine bto ?_ (Own.below (by assumption)) | refine bset ?_ (by first | (simp; done) | (simp; omega) | exact Own.le_w (by assumption) (by first | (simp; done) | (simp; omega))) _)))
  · have hr : speedR a b = (0, 0, 1) := by unfold speedR; rw [if_neg (by simp [h1])]
    rw [hr]; clear hr
    (go_enter Try.func47, Try.ntmps47; go_wp2_with (go_at_call 74; refine (s_IsEnergy _ _ _).mono ?_; rintro e w' ⟨rfl, hb⟩; have hr := New.join (by first | assumption | exact New.startD _ | exact New.startN _ _ | exact New.start _) hb; obtain ⟨rc, rf, rl, rl1, -, -, rn⟩ := hr.own.kept; replace hb := Own.join (by first | assumption | exact Own.alloc (by assumption) _ | exact Own.drew (by assumption) | exact Own.drew (Own.alloc (by assumption) _) | exact Own.alloc (Own.alloc (by assumption) _) _ | exact Own.alloc (Own.alloc (Own.alloc (by assumption) _) _) _ | exact Own.drewN (by assumption) _ | exact Own.drew (Own.start _) | exact Own.drewN (Own.start _) _ | exact Own.start _) hb; obtain ⟨hc, hf, hl, hl1, hl2, hl3, hn⟩ := hb.kept); refine bodyPost_ret (v := ivT (0, 0, 1)) (by simp [results, Try.results47, go_sem, *]) rfl ⟨rfl, ?_⟩; repeat (first | exact Below.refl _ _ | refine balloc ?_ _ | refine Below.drew ?_ | refine bdrewN ?_ _ | refine bto ?_ (Own.below (by assumption)) | refine bset ?_ (by first | (simp; done) | (simp; omega) | exact Own.le_w (by assumption) (by first | (simp; done) | (simp; omega))) _))

theorem i_change_x (k n r c d e f : Int) (h : segOk k n r c d e f = true) (w : World) : Calls Try.prog 116 #[segV k n r c d e f] w fun en w' => en = .returned (ivV (chLo n r d) (chHi n r c)) ∧
    ((w.alloc (Obj.cells #[Value.int IntKind.i64 k, Value.int IntKind.i64 n, Value.int IntKind.i64 r, Value.int IntKind.i64 c, Value.int IntKind.i64 d, Value.int IntKind.i64 e, Value.int IntKind.i64 f] 30)).alloc (Obj.cells #[Value.int IntKind.i64 (chLo n r d), Value.int IntKind.i64 (chHi n r c)] 26)) = w' := by
  have hb := segOk_bd h
  have p1 := ch_bd (n := n) (r := r) (d := d) (by omega) (by omega) (by omega)
  have p2 := ch_bd (n := n) (r := r) (d := c) (by omega) (by omega) (by omega)
  have w1 : wrap64 (2 * d * n) = 2 * d * n := by unfold wrap64; omega
  have w2 : wrap64 (2 * c * n) = 2 * c * n := by unfold wrap64; omega
  clear h
  unfold chLo chHi
  go_enter Try.func116, Try.ntmps116
  go_wp2
  refine bodyPost_ret (v := ivV (-19612 * r - 2 * d * n) (-19612 * r - 2 * c * n)) (by simp [results, Try.results116, go_sem, *]) rfl ⟨rfl, ?_⟩
  rfl

theorem s_change_x (k n r c d e f : Int) (h : segOk k n r c d e f = true) (w : World) : Calls Try.prog 77 #[segV k n r c d e f] w fun en w' => en = .returned (ivV (chLo n r d) (chHi n r c)) ∧
    ((w.alloc (Obj.cells #[Value.int IntKind.i64 k, Value.int IntKind.i64 n, Value.int IntKind.i64 r, Value.int IntKind.i64 c, Value.int IntKind.i64 d, Value.int IntKind.i64 e, Value.int IntKind.i64 f] 30)).alloc (Obj.cells #[Value.int IntKind.i64 (chLo n r d), Value.int IntKind.i64 (chHi n r c)] 26)) = w' := by
  have hb := segOk_bd h
  have p1 := ch_bd (n := n) (r := r) (d := d) (by omega) (by omega) (by omega)
  have p2 := ch_bd (n := n) (r := r) (d := c) (by omega) (by omega) (by omega)
  have w1 : wrap64 (2 * d * n) = 2 * d * n := by unfold wrap64; omega
  have w2 : wrap64 (2 * c * n) = 2 * c * n := by unfold wrap64; omega
  clear h
  unfold chLo chHi
  go_enter Try.func77, Try.ntmps77
  go_wp2
  refine bodyPost_ret (v := ivV (-19612 * r - 2 * d * n) (-19612 * r - 2 * c * n)) (by simp [results, Try.results77, go_sem, *]) rfl ⟨rfl, ?_⟩
  rfl

theorem i_sum_x (al ah bl bh : Int) (h1 : -1000000000000000 ≤ al ∧ al ≤ 1000000000000000) (h2 : -1000000000000000 ≤ ah ∧ ah ≤ 1000000000000000) (h3 : -1000000000000000 ≤ bl ∧ bl ≤ 1000000000000000) (h4 : -1000000000000000 ≤ bh ∧ bh ≤ 1000000000000000) (w : World) :
    Calls Try.prog 105 #[ivV al ah, ivV bl bh] w fun en w' => en = .returned (ivV (al + bl) (ah + bh)) ∧
    (((w.alloc (Obj.cells #[Value.int IntKind.i64 al, Value.int IntKind.i64 ah] 26)).alloc (Obj.cells #[Value.int IntKind.i64 bl, Value.int IntKind.i64 bh] 26)).alloc (Obj.cells #[Value.int IntKind.i64 (al + bl), Value.int IntKind.i64 (ah + bh)] 26)) = w' := by
  go_enter Try.func105, Try.ntmps105
  go_wp2
  refine bodyPost_ret (v := ivV (al + bl) (ah + bh)) (by simp [results, Try.results105, go_sem, *]) rfl ⟨rfl, ?_⟩
  rfl

theorem s_sum_x (al ah bl bh : Int) (h1 : -1000000000000000 ≤ al ∧ al ≤ 1000000000000000) (h2 : -1000000000000000 ≤ ah ∧ ah ≤ 1000000000000000) (h3 : -1000000000000000 ≤ bl ∧ bl ≤ 1000000000000000) (h4 : -1000000000000000 ≤ bh ∧ bh ≤ 1000000000000000) (w : World) :
    Calls Try.prog 76 #[ivV al ah, ivV bl bh] w fun en w' => en = .returned (ivV (al + bl) (ah + bh)) ∧
    (((w.alloc (Obj.cells #[Value.int IntKind.i64 al, Value.int IntKind.i64 ah] 26)).alloc (Obj.cells #[Value.int IntKind.i64 bl, Value.int IntKind.i64 bh] 26)).alloc (Obj.cells #[Value.int IntKind.i64 (al + bl), Value.int IntKind.i64 (ah + bh)] 26)) = w' := by
  go_enter Try.func76, Try.ntmps76
  go_wp2
  refine bodyPost_ret (v := ivV (al + bl) (ah + bh)) (by simp [results, Try.results76, go_sem, *]) rfl ⟨rfl, ?_⟩
  rfl

end Go.Proofs.Ytafbmhncmbcpjaa
