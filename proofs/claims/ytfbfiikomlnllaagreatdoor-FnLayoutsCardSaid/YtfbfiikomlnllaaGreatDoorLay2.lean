/- Contracts and lemmas for the proofs of this seat: Lay2. -/
import Derived.Test.YtfbfiikomlnllaaGreatDoorBase
import Derived.Test.YtfbfiikomlnllaaGreatDoorNum
import Derived.Test.YtfbfiikomlnllaaGreatDoorIv
import Derived.Test.YtfbfiikomlnllaaGreatDoorIv2
import Derived.Test.YtfbfiikomlnllaaGreatDoorDiv
import Derived.Test.YtfbfiikomlnllaaGreatDoorRoot
import Derived.Test.YtfbfiikomlnllaaGreatDoorEn
import Derived.Test.YtfbfiikomlnllaaGreatDoorSeg
import Derived.Test.YtfbfiikomlnllaaGreatDoorList
import Derived.Test.YtfbfiikomlnllaaGreatDoorLay
import Derived.Lib.Hide
import Derived.BigQuiet
import Derived.Deep.QuietTactic
import Derived.Deep.OwnRows
import Derived.Deep.LoopGhost
import Derived.Deep.RegionHeld3
import Derived.Deep.DeepCutAuto
import Derived.StillTailTactics
import Derived.Deep.AppendLies
import Derived.Deep.DrawnRows
namespace Go.Proofs.YtfbfiikomlnllaaGreatDoor
open Go.RowKit Go.Deep
set_option maxHeartbeats 2000000
set_option linter.unusedVariables false
set_option linter.unusedSimpArgs false

attribute [local go_sem] lt_2 lt_3 lt_4 lt_5 lt_6

set_option maxRecDepth 100000 in
theorem s_IsLayout (p : Option Addr) (n cap : Nat) (zs : List Seg) (w : World) (hin : Segs w p n zs) :
    Calls Tryz.prog 16 #[.agg #[.slice p n cap]] w fun en w' => en = .returned (.bool (layOk zs)) ∧ Below w.heap.size w w' := by
  have hn := hin.2.1
  have hz := hin.1
  unfold maxLen at hn
  have HZ := Lib.hid hz
  have HIN := Lib.hid hin
  clear hin hz
  by_cases h3 : n < 3
  · have hr : layOk zs = false := layOk_false fun h => by have := h.1; have := HZ.out; omega
    have hi : (n : Int) < 3 := by omega
    rw [hr]; clear hr
    go_enter Tryz.func16, Tryz.ntmps16
    go_wp2
    go_ret
    exact ⟨rfl, by repeat (first | exact Below.refl _ _ | refine balloc ?_ _ | refine Below.drew ?_ | refine bdrewN ?_ _ | refine bto ?_ (Own.below (by assumption)) | refine bset ?_ (by first | (simp; done) | (simp; omega) | exact Own.le_w (by assumption) (by first | (simp; done) | (simp; omega))) _)⟩
  by_cases h24 : 24 < n
  · have hr : layOk zs = false := layOk_false fun h => by have := h.2.1; have := HZ.out; omega
    have hi : (24 : Int) < n := by omega
    rw [hr]; clear hr
    go_enter Tryz.func16, Tryz.ntmps16
    go_wp2
    go_ret
    exact ⟨rfl, by repeat (first | exact Below.refl _ _ | refine balloc ?_ _ | refine Below.drew ?_ | refine bdrewN ?_ _ | refine bto ?_ (Own.below (by assumption)) | refine bset ?_ (by first | (simp; done) | (simp; omega) | exact Own.le_w (by assumption) (by first | (simp; done) | (simp; omega))) _)⟩
  have hi3 : (3 : Int) ≤ n := by omega
  have hi24 : (n : Int) ≤ 24 := by omega
  have HIN' := Lib.hid (HIN.out.keep ((Below.refl _ _).alloc (Nat.le_refl _) (Obj.cells #[.slice p n cap] 24)))
  go_enter Tryz.func16, Tryz.ntmps16
  go_wp2
  go_loopw [4, 5] (fun r i wr => ∃ k : Nat, k ≤ n ∧ i = .int .i64 k ∧ r = .int .i64 (preR zs k) ∧ AllOk zs k ∧ Own (w.alloc (Obj.cells #[.slice p n cap] 24)) wr) (fun _ i _ => n - (intOf i).toNat)
  case atStart => exact ⟨0, Nat.zero_le _, rfl, rfl, AllOk.zero _, Own.start _⟩
  case round =>
    obtain ⟨k, hk, rfl, rfl, hA, hown⟩ := hrel
    have hR := preR_bd hA
    have HA := Lib.hid hA
    have HO := Lib.hid hown
    obtain ⟨b, off, rfl, hlb, hc⟩ := (HIN'.out.own hown).2.2 (by omega)
    obtain ⟨hbx, hbf, hbl⟩ := below_box (k := w.heap.size) hown.below (by simp)
    have hbx := hbx 0
    simp at hbx
    by_cases hlt : k < n
    · obtain ⟨c0, c1, c2, c3, c4, c5, c6⟩ := hc k hlt
      have hlen : (k : Int) < n := by omega
      obtain ⟨wA, rfl⟩ : ∃ wA : World, wA = wr := ⟨_, rfl⟩
      obtain ⟨s, hs⟩ : ∃ s, s = sg zs k := ⟨_, rfl⟩
      rw [← hs] at c0 c1 c2 c3 c4 c5 c6
      have HSG := Lib.hid hs
      obtain ⟨x, hx⟩ : ∃ x, x = preR zs k := ⟨_, rfl⟩
      rw [← hx] at hR ⊢
      have HX := Lib.hid hx
      clear hc hown hA hbf hs hx
      rcases Bool.eq_false_or_eq_true s.ok with hok | hok
      · have hb := ok_bd hok
        have hok' : segOk s.k s.n s.r s.c s.d s.e s.f = true := hok
        have HK := Lib.hid hok
        clear hok
        go_wp2_with (go_at_call 36; refine (s_IsSegment _ _ _ _ _ _ _ _).mono ?_; rintro e w' ⟨rfl, hb⟩; obtain ⟨hc0, hf0, hl0⟩ := below_box (k := w.heap.size) hb (by first | omega | (simp; done) | (simp; omega)); obtain ⟨hc1, hf1, hl1⟩ := below_box (k := b) hb (by first | omega | (simp; done) | (simp; omega)); replace hb := Own.join (by first | assumption | exact Own.alloc (by assumption) _ | exact Own.drew (by assumption) | exact Own.drew (Own.alloc (by assumption) _) | exact Own.alloc (Own.alloc (by assumption) _) _ | exact Own.alloc (Own.alloc (Own.alloc (by assumption) _) _) _ | exact Own.drewN (by assumption) _ | exact Own.drew (Own.start _) | exact Own.drewN (Own.start _) _ | exact Own.start _) hb)
        go_roundw
        case rel => exact ⟨k + 1, by omega, by go_num, by simp only [preR]; rw [HX.out, HSG.out], HA.out.step (HSG.out ▸ HK.out), by assumption⟩
        case measure => simp [intOf]; omega
      · have hok' : segOk s.k s.n s.r s.c s.d s.e s.f = false := hok
        have hr : layOk zs = false := layOk_false fun h => by have := h.2.2.1 k (by have := HZ.out; omega); rw [← HSG.out, hok] at this; simp at this
        have HRR := Lib.hid hr
        clear hok hr
        go_wp2_with (go_at_call 36; refine (s_IsSegment _ _ _ _ _ _ _ _).mono ?_; rintro e w' ⟨rfl, hb⟩; obtain ⟨hc0, hf0, hl0⟩ := below_box (k := w.heap.size) hb (by first | omega | (simp; done) | (simp; omega)); obtain ⟨hc1, hf1, hl1⟩ := below_box (k := b) hb (by first | omega | (simp; done) | (simp; omega)); replace hb := Own.join (by first | assumption | exact Own.alloc (by assumption) _ | exact Own.drew (by assumption) | exact Own.drew (Own.alloc (by assumption) _) | exact Own.alloc (Own.alloc (by assumption) _) _ | exact Own.alloc (Own.alloc (Own.alloc (by assumption) _) _) _ | exact Own.drewN (by assumption) _ | exact Own.drew (Own.start _) | exact Own.drewN (Own.start _) _ | exact Own.start _) hb)
        go_ret
        exact ⟨ret_bool HRR.out.symm, bto (balloc (Below.refl _ _) _) (Own.below (by assumption))⟩
    · obtain rfl : k = n := by omega
      obtain ⟨c0, -, -, -, -, -, -⟩ := hc (k - 1) (by omega)
      obtain ⟨wA, rfl⟩ : ∃ wA : World, wA = wr := ⟨_, rfl⟩
      clear hc hown
      have hk1 : ((k : Int) - 1).toNat = k - 1 := by omega
      by_cases hr0 : preR zs k = 0
      · have e1 : (preR zs k == 0) = true := by simpa using hr0
        by_cases h4 : (sg zs (k - 1)).k = 4
        · have hr : layOk zs = true := layOk_iff.2 ⟨by have := HZ.out; omega, by have := HZ.out; omega, fun i hi => HA.out i (by have := HZ.out; omega), by rw [HZ.out]; exact hr0, by rw [HZ.out]; exact h4⟩
          have HRR := Lib.hid hr
          rw [h4] at c0
          rw [hr0]
          clear hr hr0 h4 hA hR e1
          go_wp2
          go_ret
          exact ⟨ret_bool HRR.out.symm, bto (balloc (Below.refl _ _) _) HO.out.below⟩
        · have hr : layOk zs = false := layOk_false fun h => h4 (by have := h.2.2.2.2; rw [HZ.out] at this; exact this)
          have HRR := Lib.hid hr
          obtain ⟨y, hy⟩ : ∃ y, y = (sg zs (k - 1)).k := ⟨_, rfl⟩
          rw [← hy] at c0 h4
          have e4 : (y == 4) = false := by simpa using h4
          rw [hr0]
          clear hr hr0 h4 hA hR e1 hy
          go_wp2
          go_ret
          exact ⟨ret_bool HRR.out.symm, bto (balloc (Below.refl _ _) _) HO.out.below⟩
      · have hr : layOk zs = false := layOk_false fun h => hr0 (by have := h.2.2.2.1; rw [HZ.out] at this; exact this)
        have HRR := Lib.hid hr
        obtain ⟨x, hx⟩ : ∃ x, x = preR zs k := ⟨_, rfl⟩
        rw [← hx] at hR hr0 ⊢
        have e1 : (x == 0) = false := by simpa using hr0
        clear hr hr0 hA hR hx
        go_wp2
        go_ret
        exact ⟨ret_bool HRR.out.symm, bto (balloc (Below.refl _ _) _) HO.out.below⟩

set_option maxRecDepth 100000 in
theorem i_IsLayout (p : Option Addr) (n cap : Nat) (zs : List Seg) (w : World) (hin : Segs w p n zs) (hn : n ≤ 1048576) :
    Calls Tryz.prog 15 #[.agg #[.slice p n cap]] w fun en w' => en = .returned (.bool (layOk zs)) ∧ Below w.heap.size w w' := by
  have hz := hin.1
  have HZ := Lib.hid hz
  have HIN' := Lib.hid (hin.keep ((Below.refl _ _).alloc (Nat.le_refl _) (Obj.cells #[.slice p n cap] 24)))
  clear hin hz
  go_enter Tryz.func15, Tryz.ntmps15
  go_wp2
  go_loopw [3, 10] (fun r i wr => ∃ k : Nat, k ≤ n ∧ i = .int .i64 k ∧ r = .int .i64 (preR zs k) ∧ AllOk zs k ∧ Own (w.alloc (Obj.cells #[.slice p n cap] 24)) wr) (fun _ i _ => n - (intOf i).toNat)
  case atStart => exact ⟨0, Nat.zero_le _, rfl, rfl, AllOk.zero _, Own.start _⟩
  case round =>
    obtain ⟨k, hk, rfl, rfl, hA, hown⟩ := hrel
    have hR := preR_bd hA
    have HA := Lib.hid hA
    have HO := Lib.hid hown
    obtain ⟨hbx, hbf, hbl⟩ := below_box (k := w.heap.size) hown.below (by simp)
    have hbx := hbx 0
    simp at hbx
    by_cases hlt : k < n
    · obtain ⟨b, off, rfl, hlb, hc⟩ := (HIN'.out.own hown).2.2 (by omega)
      obtain ⟨c0, c1, c2, c3, c4, c5, c6⟩ := hc k hlt
      have hlen : (k : Int) < n := by omega
      obtain ⟨wA, rfl⟩ : ∃ wA : World, wA = wr := ⟨_, rfl⟩
      obtain ⟨s, hs⟩ : ∃ s, s = sg zs k := ⟨_, rfl⟩
      rw [← hs] at c0 c1 c2 c3 c4 c5 c6
      have HSG := Lib.hid hs
      obtain ⟨x, hx⟩ : ∃ x, x = preR zs k := ⟨_, rfl⟩
      rw [← hx] at hR ⊢
      have HX := Lib.hid hx
      have hown2 := hown.alloc (Obj.cells #[.int .i64 s.k, .int .i64 s.n, .int .i64 s.r, .int .i64 s.c, .int .i64 s.d, .int .i64 s.e, .int .i64 s.f] 41)
      clear hc hown hA hbf hs hx
      rcases Bool.eq_false_or_eq_true s.ok with hok | hok
      · have hb := ok_bd hok
        have hok' : segOk s.k s.n s.r s.c s.d s.e s.f = true := hok
        have HK := Lib.hid hok
        clear hok
        go_wp2_with (go_at_call 34; refine (i_IsSegment _ _ _ _ _ _ _ _).mono ?_; rintro e w' ⟨rfl, hb⟩; obtain ⟨hc0, hf0, hl0⟩ := below_box (k := w.heap.size) hb (by first | omega | (simp; done) | (simp; omega)); obtain ⟨hc1, hf1, hl1⟩ := below_box (k := wA.heap.size) hb (by first | omega | (simp; done) | (simp; omega)); replace hb := Own.join (by first | assumption | exact Own.alloc (by assumption) _ | exact Own.drew (by assumption) | exact Own.drew (Own.alloc (by assumption) _) | exact Own.alloc (Own.alloc (by assumption) _) _ | exact Own.alloc (Own.alloc (Own.alloc (by assumption) _) _) _ | exact Own.drewN (by assumption) _ | exact Own.drew (Own.start _) | exact Own.drewN (Own.start _) _ | exact Own.start _) hb)
        go_roundw
        case rel => exact ⟨k + 1, by omega, by go_num, by simp only [preR]; rw [HX.out, HSG.out], HA.out.step (HSG.out ▸ HK.out), by assumption⟩
        case measure => simp [intOf]; omega
      · have hok' : segOk s.k s.n s.r s.c s.d s.e s.f = false := hok
        have hr : layOk zs = false := layOk_false fun h => by have := h.2.2.1 k (by have := HZ.out; omega); rw [← HSG.out, hok] at this; simp at this
        have HRR := Lib.hid hr
        clear hok hr
        go_wp2_with (go_at_call 34; refine (i_IsSegment _ _ _ _ _ _ _ _).mono ?_; rintro e w' ⟨rfl, hb⟩; obtain ⟨hc0, hf0, hl0⟩ := below_box (k := w.heap.size) hb (by first | omega | (simp; done) | (simp; omega)); obtain ⟨hc1, hf1, hl1⟩ := below_box (k := wA.heap.size) hb (by first | omega | (simp; done) | (simp; omega)); replace hb := Own.join (by first | assumption | exact Own.alloc (by assumption) _ | exact Own.drew (by assumption) | exact Own.drew (Own.alloc (by assumption) _) | exact Own.alloc (Own.alloc (by assumption) _) _ | exact Own.alloc (Own.alloc (Own.alloc (by assumption) _) _) _ | exact Own.drewN (by assumption) _ | exact Own.drew (Own.start _) | exact Own.drewN (Own.start _) _ | exact Own.start _) hb)
        go_ret
        exact ⟨ret_bool HRR.out.symm, bto (balloc (Below.refl _ _) _) (Own.below (by assumption))⟩
    · obtain rfl : k = n := by omega
      obtain ⟨wA, rfl⟩ : ∃ wA : World, wA = wr := ⟨_, rfl⟩
      by_cases hk3 : inB k 3 24 = true
      · have hb3 := inB_iff.1 hk3
        obtain ⟨b, off, rfl, hlb, hc⟩ := (HIN'.out.own hown).2.2 (by omega)
        obtain ⟨c0, -, -, -, -, -, -⟩ := hc (k - 1) (by omega)
        clear hc hown
        have hk1 : ((k : Int) - 1).toNat = k - 1 := by omega
        by_cases h4 : (sg zs (k - 1)).k = 4
        · rw [h4] at c0
          by_cases hr0 : preR zs k = 0
          · have hr : layOk zs = true := layOk_iff.2 ⟨by have := HZ.out; omega, by have := HZ.out; omega, fun i hi => HA.out i (by have := HZ.out; omega), by rw [HZ.out]; exact hr0, by rw [HZ.out]; exact h4⟩
            have HRR := Lib.hid hr
            rw [hr0]
            clear hr hr0 h4 hA hR
            go_wp2_with (go_at_call 35; refine (i_within _ _ _ _).mono ?_; rintro e w' ⟨rfl, rfl⟩)
            go_ret
            exact ⟨ret_bool HRR.out.symm, bto (balloc (Below.refl _ _) _) HO.out.below⟩
          · have hr : layOk zs = false := layOk_false fun h => hr0 (by have := h.2.2.2.1; rw [HZ.out] at this; exact this)
            have HRR := Lib.hid hr
            obtain ⟨x, hx⟩ : ∃ x, x = preR zs k := ⟨_, rfl⟩
            rw [← hx] at hR hr0 ⊢
            have e1 : (x == 0) = false := by simpa using hr0
            clear hr hr0 hA hR hx h4
            go_wp2_with (go_at_call 35; refine (i_within _ _ _ _).mono ?_; rintro e w' ⟨rfl, rfl⟩)
            go_ret
            exact ⟨ret_bool HRR.out.symm, bto (balloc (Below.refl _ _) _) HO.out.below⟩
        · have hr : layOk zs = false := layOk_false fun h => h4 (by have := h.2.2.2.2; rw [HZ.out] at this; exact this)
          have HRR := Lib.hid hr
          obtain ⟨y, hy⟩ : ∃ y, y = (sg zs (k - 1)).k := ⟨_, rfl⟩
          rw [← hy] at c0 h4
          have e4 : (y == 4) = false := by simpa using h4
          clear hr h4 hA hR hy
          go_wp2_with (go_at_call 35; refine (i_within _ _ _ _).mono ?_; rintro e w' ⟨rfl, rfl⟩)
          go_ret
          exact ⟨ret_bool HRR.out.symm, bto (balloc (Below.refl _ _) _) HO.out.below⟩
      · have hk3' : inB k 3 24 = false := by simpa using hk3
        have hr : layOk zs = false := layOk_false fun h => hk3 (inB_iff.2 (by have := h.1; have := h.2.1; have := HZ.out; omega))
        have HRR := Lib.hid hr
        clear hr hk3 hown
        go_wp2_with (go_at_call 35; refine (i_within _ _ _ _).mono ?_; rintro e w' ⟨rfl, rfl⟩)
        go_ret
        exact ⟨ret_bool HRR.out.symm, bto (balloc (Below.refl _ _) _) HO.out.below⟩

end Go.Proofs.YtfbfiikomlnllaaGreatDoor
