/- Contracts and lemmas for the proofs of this seat: LPlain. -/
import Derived.Test.YtgkfnggnhphboaaBase
import Derived.Test.YtgkfnggnhphboaaNum
import Derived.Test.YtgkfnggnhphboaaIv
import Derived.Test.YtgkfnggnhphboaaIv2
import Derived.Test.YtgkfnggnhphboaaScale
import Derived.Test.YtgkfnggnhphboaaDiv
import Derived.Test.YtgkfnggnhphboaaRoot
import Derived.Test.YtgkfnggnhphboaaEn
import Derived.Test.YtgkfnggnhphboaaEn2
import Derived.Test.YtgkfnggnhphboaaSeg
import Derived.Test.YtgkfnggnhphboaaStop
import Derived.Test.YtgkfnggnhphboaaStop2
import Derived.Test.YtgkfnggnhphboaaList
import Derived.Test.YtgkfnggnhphboaaLay
import Derived.Test.YtgkfnggnhphboaaLay2
import Derived.Test.YtgkfnggnhphboaaLay3
import Derived.Test.YtgkfnggnhphboaaLay4
import Derived.Test.YtgkfnggnhphboaaLay5
import Derived.Test.YtgkfnggnhphboaaLay6
import Derived.Test.YtgkfnggnhphboaaLay7
import Derived.Test.YtgkfnggnhphboaaLay8
import Derived.Test.YtgkfnggnhphboaaLay9
import Derived.Test.YtgkfnggnhphboaaLay10
import Derived.Test.YtgkfnggnhphboaaLay11
import Derived.Test.YtgkfnggnhphboaaLay12
import Derived.Test.YtgkfnggnhphboaaLay13
import Derived.Test.YtgkfnggnhphboaaLay14
import Derived.Test.YtgkfnggnhphboaaLay15
import Derived.Test.YtgkfnggnhphboaaLay16
import Derived.Test.YtgkfnggnhphboaaLay17
import Derived.Test.YtgkfnggnhphboaaLay18
import Derived.Test.YtgkfnggnhphboaaLay19
import Derived.Test.YtgkfnggnhphboaaLay20
import Derived.Test.YtgkfnggnhphboaaLay21
namespace Go.Proofs.Ytgkfnggnhphboaa
open Go.RowKit
set_option maxHeartbeats 2000000
set_option linter.unusedVariables false
set_option linter.unusedSimpArgs false

theorem moveR_ok {zs : List Seg} {x y v c : Int} (h : moveR zs x y = (v, c)) (hc : c = 0) : layOk zs = true ∧ (0 ≤ x ∧ x ≤ totN zs - 1) ∧ (0 ≤ y ∧ y ≤ totN zs) ∧ v = (x + y) % totN zs := by
  subst hc
  unfold moveR at h
  split at h
  · split at h
    · rename_i h1 h2
      simp only [Prod.mk.injEq, and_true] at h
      exact ⟨h1, inB_iff.1 h2.1, inB_iff.1 h2.2, h.symm⟩
    · simp at h
  · simp at h
theorem trains_law {zs : List Seg} {x y v : Int} (h : moveR zs x y = (v, 0)) (n : Int) :
    (rearR zs v n = (0, 2) ∧ rearR zs x n = (0, 2)) ∨ (∃ a b, rearR zs v n = (a, 0) ∧ rearR zs x n = (b, 0) ∧ moveR zs b y = (a, 0)) := by
  obtain ⟨hl, hx, hy, rfl⟩ := moveR_ok h rfl
  have hT := (lay_bd (layOk_iff.1 hl)).2
  have e0 := Int.emod_nonneg (x + y) (show totN zs ≠ 0 by omega)
  have e1 := Int.emod_lt_of_pos (x + y) (show 0 < totN zs by omega)
  have hv : inB ((x + y) % totN zs) 0 (totN zs - 1) = true := inB_iff.2 (by omega)
  have hx' : inB x 0 (totN zs - 1) = true := inB_iff.2 hx
  by_cases hn : inB n 1 (min 40000 (totN zs)) = true
  · right
    refine ⟨_, _, by unfold rearR; rw [if_pos hl, if_pos ⟨hv, hn⟩], by unfold rearR; rw [if_pos hl, if_pos ⟨hx', hn⟩], ?_⟩
    have f0 := Int.emod_nonneg (x - n + 1) (show totN zs ≠ 0 by omega)
    have f1 := Int.emod_lt_of_pos (x - n + 1) (show 0 < totN zs by omega)
    unfold moveR
    rw [if_pos hl, if_pos ⟨inB_iff.2 (by omega), inB_iff.2 hy⟩]
    simp only [Prod.mk.injEq, and_true]
    rw [Int.emod_add_emod, show (x + y) % totN zs - n + 1 = (x + y) % totN zs + (1 - n) from by omega, Int.emod_add_emod]
    congr 1
    omega
  · left
    exact ⟨by unfold rearR; rw [if_pos hl, if_neg (fun h => hn h.2)], by unfold rearR; rw [if_pos hl, if_neg (fun h => hn h.2)]⟩

theorem segR_ok {zs : List Seg} {x k o c : Int} (h : segR zs x = (k, o, c)) (hc : c = 0) : layOk zs = true ∧ (0 ≤ x ∧ x ≤ totN zs - 1) ∧ ∃ j : Nat, k = j ∧ j < zs.length ∧ o = x - preN zs j ∧ 0 ≤ o ∧ o < (sg zs j).n ∧ j = segIx zs x := by
  subst hc
  unfold segR at h
  split at h
  · split at h
    · rename_i h1 h2
      simp only [Prod.mk.injEq, and_true] at h
      have hx := inB_iff.1 h2
      obtain ⟨i1, i2, i3⟩ := segIx_at (zs := zs) (x := x) (by omega) (by omega)
      simp only [preN] at i3
      exact ⟨h1, hx, _, h.1.symm, i1, h.2.symm, by omega, by omega, rfl⟩
    · simp at h
  · simp at h
theorem segR_bad {zs : List Seg} {x k o c : Int} (h : segR zs x = (k, o, c)) (hc : c ≠ 0) : (k = 0 ∧ o = 0) ∧ (layOk zs = false ∨ layOk zs = true ∧ (x < 0 ∨ totN zs ≤ x)) := by
  unfold segR at h
  split at h
  · rename_i h1
    split at h
    · simp only [Prod.mk.injEq] at h; omega
    · rename_i h2
      simp only [Prod.mk.injEq] at h
      refine ⟨⟨h.1.symm, h.2.1.symm⟩, .inr ⟨h1, ?_⟩⟩
      by_cases c : 0 ≤ x ∧ x ≤ totN zs - 1
      · exact absurd (inB_iff.2 c) h2
      · omega
  · rename_i h1
    simp only [Prod.mk.injEq] at h
    exact ⟨⟨h.1.symm, h.2.1.symm⟩, .inl (by simpa using h1)⟩

theorem floorG_zero (b : Int) : floorG 0 b = 0 := by simp [floorG]
theorem floorG_div {a b : Int} (hb : 0 < b) : floorG a b = a / b := by
  unfold floorG
  have hd := Int.mul_tdiv_add_tmod a b
  have h2 := Int.mul_ediv_add_emod a b
  have h3 := Int.emod_nonneg a (show b ≠ 0 by omega)
  have h4 := Int.emod_lt_of_pos a hb
  rcases (show a < 0 ∨ 0 ≤ a by omega) with ha | ha
  · have t1 : a.tmod b ≤ 0 := by have := Int.tmod_nonneg b (show 0 ≤ -a by omega); rw [Int.neg_tmod] at this; omega
    have t2 : -b < a.tmod b := by have := Int.tmod_lt_of_pos (-a) hb; rw [Int.neg_tmod] at this; omega
    by_cases hm : a.tmod b = 0
    · rw [if_pos (.inl hm)]
      rw [hm] at hd
      have : a = b * a.tdiv b := by omega
      exact (Int.ediv_eq_of_eq_mul_right (by omega) this).symm
    · rw [if_neg (by omega)]
      have e : a = (a.tmod b + b) + b * (a.tdiv b - 1) := by rw [Int.mul_sub, Int.mul_one]; omega
      conv => rhs; rw [e]
      rw [Int.add_mul_ediv_left _ _ (by omega), Int.ediv_eq_zero_of_lt (by omega) (by omega)]
      omega
  · rw [if_pos (.inr (by omega)), Int.tdiv_eq_ediv_of_nonneg ha]
theorem floor_between {r o n : Int} (hn : 1 ≤ n) (h0 : 0 ≤ o) (h1 : o < n) : min 0 r ≤ floorG (r * o) n ∧ floorG (r * o) n ≤ max 0 r := by
  rw [floorG_div (by omega)]
  rcases (show r < 0 ∨ 0 ≤ r by omega) with h | h
  · have a1 : r * o ≤ 0 := Int.mul_nonpos_of_nonpos_of_nonneg (by omega) h0
    have a2 : r * n ≤ r * o := Int.mul_le_mul_of_nonpos_left (by omega) (by omega)
    have b1 : r ≤ r * o / n := Int.le_ediv_of_mul_le (by omega) a2
    have b2 : r * o / n ≤ 0 := by have := Int.ediv_le_ediv (by omega : 0 < n) a1; simpa using this
    omega
  · have a1 : 0 ≤ r * o := Int.mul_nonneg h h0
    have a2 : r * o ≤ r * n := Int.mul_le_mul_of_nonneg_left (by omega) h
    have b1 : 0 ≤ r * o / n := Int.ediv_nonneg a1 (by omega)
    have b2 : r * o / n ≤ r := by have := Int.ediv_le_ediv (by omega : 0 < n) a2; rwa [Int.mul_ediv_cancel _ (by omega)] at this
    omega
theorem hgtR_ok {zs : List Seg} {x h c : Int} (e : hgtR zs x = (h, c)) (hc : c = 0) :
    ∃ j : Nat, segR zs x = ((j : Int), x - preN zs j, 0) ∧ j < zs.length ∧ hgtR zs (x - (x - preN zs j)) = (preR zs j, 0) ∧ min (preR zs j) (preR zs j + (sg zs j).r) ≤ h ∧ h ≤ max (preR zs j) (preR zs j + (sg zs j).r) := by
  subst hc
  unfold hgtR at e
  split at e
  · rename_i h1
    split at e
    · rename_i h2
      simp only [Prod.mk.injEq, and_true] at e
      have hx := inB_iff.1 h2
      have hA := (lay_bd (layOk_iff.1 h1)).1
      obtain ⟨i1, i2, i3⟩ := segIx_at (zs := zs) (x := x) (by omega) (by omega)
      have hok := ok_bd (hA _ i1)
      have hp0 : 0 ≤ preN zs (segIx zs x) := by
        rcases Nat.eq_zero_or_pos (segIx zs x) with z | z
        · rw [z]; exact Int.le_refl _
        · have := preN_lt (zs := zs) (i := 0) (fun i hi => hA i (by omega)) z
          simp only [preN] at this; omega
      have hi' : inB (preN zs (segIx zs x)) 0 (totN zs - 1) = true := inB_iff.2 (by omega)
      have i3' := i3
      simp only [preN] at i3'
      have hat : IsAt zs (preN zs (segIx zs x)) (segIx zs x) := ⟨i1, Int.le_refl _, by simp only [preN]; omega⟩
      have hix : segIx zs (preN zs (segIx zs x)) = segIx zs x := (segIx_at (by omega) (by omega)).uniq hA hat
      have hf := floor_between (r := (sg zs (segIx zs x)).r) (o := x - preN zs (segIx zs x)) (n := (sg zs (segIx zs x)).n) (by omega) (by omega) (by omega)
      refine ⟨segIx zs x, by unfold segR; rw [if_pos h1, if_pos h2], i1, ?_, ?_⟩
      · rw [show x - (x - preN zs (segIx zs x)) = preN zs (segIx zs x) from by omega]
        unfold hgtR
        rw [if_pos h1, if_pos hi', hix]
        unfold hgtAt
        rw [Int.sub_self, Int.mul_zero, floorG_zero, Int.add_zero]
      · unfold hgtAt at e
        omega
    · simp at e
  · simp at e

theorem apart_symm {t a b m : Int} (ht : 0 < t) (_hm : 1 ≤ m) : apartB t b a m = apartB t a b m := by
  unfold apartB
  have e : a - b = -(b - a) := by omega
  by_cases h : (b - a) % t = 0
  · have h2 : (a - b) % t = 0 := by rw [e]; exact Int.emod_eq_zero_of_dvd (Int.dvd_neg.2 (Int.dvd_of_emod_eq_zero h))
    rw [h, h2]
  · rw [e, neg_emod_pos ht h, show t - (t - (b - a) % t) = (b - a) % t from by omega, Bool.and_comm]
theorem sep_two {t a b m : Int} (ht : 0 < t) (hm : 1 ≤ m) : sepB t m [a, b] = apartB t a b m := by
  have h1 : hitB t m [a, b] 1 = !apartB t b a m := by simp [hitB]
  have h0 : hitB t m [a, b] 0 = false := by simp [hitB]
  rw [apart_symm ht hm] at h1
  unfold sepB
  cases h : apartB t a b m
  · refine decide_eq_false fun H => ?_
    have := H 1 (by simp)
    rw [h1, h] at this
    simp at this
  · refine decide_eq_true fun i hi => ?_
    simp at hi
    match i, hi with
    | 0, _ => exact h0
    | 1, _ => rw [h1, h]; rfl
theorem as_two {zs : List Seg} {x y m : Int} (hl : layOk zs = true) (hx : inB x 0 (totN zs - 1) = true) (hy : inB y 0 (totN zs - 1) = true) (hm : inB m 1 (min 40000 (totN zs)) = true) : asR zs [x, y] m = apartB (totN zs) x y m := by
  have hT := (lay_bd (layOk_iff.1 hl)).2
  have hm1 := inB_iff.1 hm
  unfold asR
  rw [hl, hm, sep_two (by omega) (by omega)]
  simp [allPos, isPos, hx, hy]
theorem gaps_law {zs : List Seg} {x y m g c : Int} (h : gapR zs x y m = (g, c)) :
    (c = 0 → ∃ k t : Int, gapR zs y x m = (k, 0) ∧ trackR zs = (t, 0) ∧ 0 ≤ g ∧ 0 ≤ k ∧ g + k + 2 * m = t ∧ asR zs [x, y] m = true ∧ (0 ≤ m ∧ m ≤ 40000) ∧ g ≤ 4800000 ∧ k ≤ 4800000) ∧
    (c = 5 → asR zs [x, y] m = false) := by
  unfold gapR at h
  split at h
  · rename_i hl
    have hT := (lay_bd (layOk_iff.1 hl)).2
    split at h
    · rename_i h3
      obtain ⟨hx, hy, hm⟩ := h3
      have hm1 := inB_iff.1 hm
      have e := as_two hl hx hy hm
      have hs := apart_symm (t := totN zs) (a := x) (b := y) (m := m) (by omega) (by omega)
      split at h
      · rename_i h4
        simp only [Prod.mk.injEq] at h
        obtain ⟨rfl, rfl⟩ := h
        refine ⟨fun _ => ?_, fun h5 => by omega⟩
        have h4' := h4
        unfold apartB at h4'
        simp only [Bool.and_eq_true, decide_eq_true_eq] at h4'
        have e2 : x - y = -(y - x) := by omega
        have e3 := neg_emod_pos (t := totN zs) (c := y - x) (by omega) (by omega)
        rw [h4] at e hs
        refine ⟨_, _, by unfold gapR; rw [if_pos hl, if_pos ⟨hy, hx, hm⟩, if_pos hs], by unfold trackR; rw [if_pos hl], by omega, ?_, ?_, e, by omega, by omega, ?_⟩
        · rw [e2, e3]; omega
        · rw [e2, e3]; omega
        · rw [e2, e3]; omega
      · rename_i h4
        simp only [Prod.mk.injEq] at h
        refine ⟨fun h5 => by omega, fun _ => ?_⟩
        rw [e]; simpa using h4
    · simp only [Prod.mk.injEq] at h
      exact ⟨fun h5 => by omega, fun h5 => by omega⟩
  · simp only [Prod.mk.injEq] at h
    exact ⟨fun h5 => by omega, fun h5 => by omega⟩

theorem needL_ge (zs : List Seg) (f : Nat) : ∀ m j, j ≤ m → -(sumL zs f j) ≤ needL zs f m := by
  intro m
  induction m with
  | zero => intro j hj; obtain rfl : j = 0 := by omega
            simp [sumL, needL]
  | succ m ih =>
    intro j hj
    simp only [needL]
    by_cases e : j = m + 1
    · subst e; omega
    · have := ih j (by omega); omega
theorem needL_hit (zs : List Seg) (f : Nat) : ∀ m, 0 < needL zs f m → ∃ j, j ≤ m ∧ needL zs f m = -(sumL zs f j) := by
  intro m
  induction m with
  | zero => intro h; simp [needL] at h
  | succ m ih =>
    intro h
    simp only [needL] at h ⊢
    by_cases c : needL zs f m ≤ -(sumL zs f (m + 1))
    · exact ⟨m + 1, Nat.le_refl _, by omega⟩
    · obtain ⟨j, hj, e⟩ := ih (by omega)
      exact ⟨j, by omega, by omega⟩
theorem enCheck_cases (lo hi : Int) : enCheck lo hi = (0, 0, 5) ∧ lo < 0 ∨ enCheck lo hi = (0, 0, 3) ∧ 0 ≤ lo ∨ enCheck lo hi = (lo, hi, 0) ∧ 0 ≤ lo ∧ hi ≤ 10000000000 := by
  unfold enCheck
  by_cases h1 : lo < 0
  · rw [if_pos h1]; exact .inl ⟨rfl, h1⟩
  · rw [if_neg h1]
    by_cases h2 : 10000000000 < hi
    · rw [if_pos h2]; exact .inr (.inl ⟨rfl, by omega⟩)
    · rw [if_neg h2]; exact .inr (.inr ⟨rfl, by omega, by omega⟩)
theorem eaA_sum {zs : List Seg} (hL : LayOk zs) {f : Nat} {a b : Int} (h : isEn a b = true) : ∀ j, (eaA zs f a b j).2.2 = 5 ∧ (∃ i, i ≤ j ∧ a + sumL zs f i < 0) ∨ (eaA zs f a b j).2.2 = 3 ∨ (eaA zs f a b j).2.2 = 0 ∧ (eaA zs f a b j).1 = a + sumL zs f j ∧ ∀ i, i ≤ j → 0 ≤ a + sumL zs f i := by
  intro j
  induction j with
  | zero =>
    refine .inr (.inr ⟨rfl, by simp [eaA, sumL], fun i hi => ?_⟩)
    obtain rfl : i = 0 := by omega
    have := isEn_iff.1 h
    simp [sumL]; omega
  | succ j ih =>
    simp only [eaA]
    rcases ih with ⟨h1, i, hi, h2⟩ | h1 | ⟨h1, h2, h3⟩
    · rw [if_neg (by omega)]; exact .inl ⟨h1, i, by omega, h2⟩
    · rw [if_neg (by omega)]; exact .inr (.inl h1)
    · rw [if_pos h1]
      have hE := eaA_isEn hL h j h1
      have hs := runAt_ok hL f j
      unfold Seg.ok at hs
      unfold enAfter
      rw [if_pos ⟨hs, hE⟩]
      rcases enCheck_cases ((eaA zs f a b j).1 + chLo (runAt zs f j).n (runAt zs f j).r (runAt zs f j).d) ((eaA zs f a b j).2.1 + chHi (runAt zs f j).n (runAt zs f j).r (runAt zs f j).c) with ⟨e, e2⟩ | ⟨e, e2⟩ | ⟨e, e2, e3⟩
      · rw [e]; refine .inl ⟨rfl, j + 1, Nat.le_refl _, ?_⟩
        simp only [sumL, cL]; omega
      · rw [e]; exact .inr (.inl rfl)
      · rw [e]
        refine .inr (.inr ⟨rfl, by simp only [sumL, cL]; omega, fun i hi => ?_⟩)
        by_cases q : i = j + 1
        · subst q; simp only [sumL, cL]; omega
        · exact h3 i (by omega)
theorem need_law {zs : List Seg} {x y v : Int} (h : needR zs x y = (v, 0)) :
    (eaC zs x y v v = 0 ∨ eaC zs x y v v = 3) ∧ 0 ≤ v ∧ v ≤ 10000000000 ∧ (v ≠ 0 → eaC zs x y (v - 1) (v - 1) = 5 ∨ eaC zs x y (v - 1) (v - 1) = 3) := by
  unfold needR at h
  split at h
  · rename_i hl
    split at h
    · rename_i hr
      split at h
      · simp at h
      · rename_i h1
        simp only [Prod.mk.injEq, and_true] at h
        have hL := layOk_iff.1 hl
        have hb := needL_bd hL x.toNat y.toNat
        have h0 : isEn v v = true := isEn_iff.2 (by omega)
        refine ⟨?_, by omega, by omega, fun hv => ?_⟩
        · unfold eaC
          rw [if_pos ⟨hl, h0⟩, if_pos hr]
          rcases eaA_sum hL (f := x.toNat) h0 y.toNat with ⟨e, i, hi, e2⟩ | e | ⟨e, _⟩
          · have := needL_ge zs x.toNat y.toNat i hi; omega
          · exact .inr e
          · exact .inl e
        · have h0' : isEn (v - 1) (v - 1) = true := isEn_iff.2 (by omega)
          unfold eaC
          rw [if_pos ⟨hl, h0'⟩, if_pos hr]
          rcases eaA_sum hL (f := x.toNat) h0' y.toNat with ⟨e, i, hi, e2⟩ | e | ⟨e, _, e3⟩
          · exact .inl e
          · exact .inr e
          · obtain ⟨j, hj, e4⟩ := needL_hit zs x.toNat y.toNat (by omega)
            have := e3 j hj
            omega
    · simp at h
  · simp at h

theorem runAt_shift (zs : List Seg) (f k j : Nat) : runAt zs ((f + k) % zs.length) j = runAt zs f (k + j) := by
  unfold runAt
  rw [Nat.mod_add_mod, Nat.add_assoc]
theorem eaA_split {zs : List Seg} {f k : Nat} {a b : Int} (h : (eaA zs f a b k).2.2 = 0) : ∀ j, eaA zs ((f + k) % zs.length) (eaA zs f a b k).1 (eaA zs f a b k).2.1 j = eaA zs f a b (k + j) := by
  intro j
  induction j with
  | zero =>
    simp only [eaA, Nat.add_zero]
    rw [← h]
  | succ j ih =>
    rw [show k + (j + 1) = (k + j) + 1 from rfl]
    simp only [eaA]
    rw [ih, runAt_shift]
theorem eaA_zero {zs : List Seg} {f : Nat} {a b : Int} {m : Nat} (h : (eaA zs f a b m).2.2 = 0) {k : Nat} (hk : k ≤ m) : (eaA zs f a b k).2.2 = 0 := by
  by_cases c : (eaA zs f a b k).2.2 = 0
  · exact c
  · have := eaA_stick c m hk
    rw [this] at h
    exact absurd h c
theorem runs_law {zs : List Seg} {x y a b : Int} (h : eaC zs x y a b = 0) :
    ∃ f m : Nat, x = f ∧ y = m ∧ f < zs.length ∧ m ≤ 24 ∧ layOk zs = true ∧ isEn a b = true ∧ eaM zs x y a b = m ∧
      ∀ k : Nat, k ≤ m → ∀ u v, u = (eaA zs f a b k).1 → v = (eaA zs f a b k).2.1 → ∀ z : Int, z = ((f + k) % zs.length : Nat) →
        eaC zs x k a b = 0 ∧ eaM zs x k a b = k ∧ eaC zs z ((m : Int) - k) u v = 0 ∧ eaM zs z ((m : Int) - k) u v = m - k ∧
        ∀ i, i < (m - k) * 2 → eaF zs ((f + k) % zs.length) u v i = eaF zs f a b (k * 2 + i) := by
  unfold eaC at h
  split at h
  · rename_i h1
    split at h
    · rename_i hr
      obtain ⟨f, m, rfl, rfl, hf, hm⟩ := rangeB_nat hr
      simp only [Int.toNat_natCast] at h
      have hL := layOk_iff.1 h1.1
      refine ⟨f, m, rfl, rfl, hf, hm, h1.1, h1.2, by unfold eaM; simp only [Int.toNat_natCast]; rw [if_pos ⟨h1.1, h1.2, hr, h⟩], ?_⟩
      intro k hk u v hu hv z hz
      have hk0 := eaA_zero h hk
      have hrk : rangeB zs (f : Int) (k : Int) = true := by unfold rangeB; simp only [Bool.and_eq_true, inB_iff]; omega
      have hmod : (f + k) % zs.length < zs.length := Nat.mod_lt _ (by omega)
      have hr2 : rangeB zs z ((m : Int) - k) = true := by unfold rangeB; simp only [Bool.and_eq_true, inB_iff]; omega
      have hE := eaA_isEn hL h1.2 k hk0
      rw [← hu, ← hv] at hE
      have hs := fun j => eaA_split (zs := zs) hk0 j
      rw [← hu, ← hv] at hs
      have e1 : z.toNat = (f + k) % zs.length := by omega
      have e2 : ((m : Int) - k).toNat = m - k := by omega
      have hz0 : (eaA zs ((f + k) % zs.length) u v (m - k)).2.2 = 0 := by rw [hs, show k + (m - k) = m from by omega]; exact h
      refine ⟨by unfold eaC; simp only [Int.toNat_natCast]; rw [if_pos h1, if_pos hrk]; exact hk0, by unfold eaM; simp only [Int.toNat_natCast]; rw [if_pos ⟨h1.1, h1.2, hrk, hk0⟩], ?_, ?_, ?_⟩
      · unfold eaC; rw [if_pos ⟨h1.1, hE⟩, if_pos hr2, e1, e2]; exact hz0
      · unfold eaM; rw [e1, e2, if_pos ⟨h1.1, hE, hr2, hz0⟩]
      · intro i hi
        unfold eaF
        rw [show (k * 2 + i) % 2 = i % 2 from by omega, show (k * 2 + i) / 2 + 1 = k + (i / 2 + 1) from by omega, hs]
    · simp at h
  · simp at h

end Go.Proofs.Ytgkfnggnhphboaa
