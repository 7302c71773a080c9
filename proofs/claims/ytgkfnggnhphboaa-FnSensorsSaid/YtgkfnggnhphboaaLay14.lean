/- Contracts and lemmas for the proofs of this seat: Lay14. -/
import Derived.Test.YtgkfnggnhphboaaBase
import Derived.Test.YtgkfnggnhphboaaNum
import Derived.Test.YtgkfnggnhphboaaIv
import Derived.Test.YtgkfnggnhphboaaIv2
import Derived.Test.YtgkfnggnhphboaaDiv
import Derived.Test.YtgkfnggnhphboaaRoot
import Derived.Test.YtgkfnggnhphboaaEn
import Derived.Test.YtgkfnggnhphboaaSeg
import Derived.Test.YtgkfnggnhphboaaList
import Derived.Test.YtgkfnggnhphboaaLay
import Derived.Test.YtgkfnggnhphboaaLay2
import Derived.Test.YtgkfnggnhphboaaLay3
import Derived.Test.YtgkfnggnhphboaaLay4
import Derived.Test.YtgkfnggnhphboaaLay12
import Derived.Test.YtgkfnggnhphboaaLay13
import Derived.Lib.Hide
import Derived.BigQuiet
import Derived.Deep.QuietTactic
import Derived.Deep.OwnRows
import Derived.Deep.LoopGhost
import Derived.Deep.RegionHeld3
import Derived.Deep.DeepCutAuto
import Derived.StillTailTactics
import Derived.Deep.AppendLies
import Derived.Deep.DrawnRows
import Derived.Outline
namespace Go.Proofs.Ytgkfnggnhphboaa
open Go.RowKit Go.Deep
set_option maxHeartbeats 2000000
set_option linter.unusedVariables false
set_option linter.unusedSimpArgs false

attribute [local go_sem] lt_2 lt_3 lt_4 lt_5 lt_6
set_option maxRecDepth 100000 in
theorem s_SegmentAt (p : Option Addr) (n cap : Nat) (zs : List Seg) (x : Int) (w : World) (hin : Segs w p n zs) : Calls Try.prog 18 #[.agg #[.slice p n cap], .int .i64 x] w fun en w' => en = .returned (p3 (segR zs x)) ∧ Below w.heap.size w w' := by
  have HIN' : Hid (Segs (w.alloc (Obj.cells #[.slice p n cap] 26)) p n zs) := (hin.alloc _); have h0 := Own.start (w.alloc (Obj.cells #[.slice p n cap] 26)); clear hin
  have c0 := fun (W : World) (h : Segs W p n zs) => s_l03Code p n cap zs x W h
  rcases Bool.eq_false_or_eq_true (layOk zs) with hl | hl
  · have HL := Lib.hid (layOk_iff.1 hl)
    rcases Bool.eq_false_or_eq_true (inB x 0 (totN zs - 1)) with h1 | h1
    · have b1 := inB_iff.1 h1
      have hg : segR zs x = ((segIx zs x : Int), x - preN zs (segIx zs x), 0) := by unfold segR; rw [if_pos hl, if_pos h1]
      rw [hg] at c0 ⊢
      have C0 := Lib.hid c0
      have HK := Lib.hid (segIx_at (zs := zs) (x := x) (by omega) (by omega))
      clear hg c0
      go_enter Try.func18, Try.ntmps18
      go_wp2_with first | (go_at_call 73; refine (C0.out _ ?_).mono ?_; (focus (exact HIN'.out.own (by first | assumption | exact Own.alloc (by assumption) _ | exact Own.drew (by assumption) | exact Own.drew (Own.alloc (by assumption) _)))); rintro e w' ⟨rfl, hb⟩; obtain ⟨hc0, hf0, hl0⟩ := below_box (k := w.heap.size) hb (by first | omega | (simp; done) | (simp; omega)); replace hb := Own.join (by first | assumption | exact Own.alloc (by assumption) _ | exact Own.drew (by assumption) | exact Own.drew (Own.alloc (by assumption) _) | exact Own.alloc (Own.alloc (by assumption) _) _ | exact Own.alloc (Own.alloc (Own.alloc (by assumption) _) _) _ | exact Own.drewN (by assumption) _ | exact Own.drew (Own.start _) | exact Own.drewN (Own.start _) _ | exact Own.start _) hb) | (go_at_call 74; refine (s_l03At p n cap zs x (segIx zs x) _ ?_ HL.out HK.out).mono ?_; (focus (exact HIN'.out.own (by first | assumption | exact Own.alloc (by assumption) _ | exact Own.drew (by assumption) | exact Own.drew (Own.alloc (by assumption) _)))); rintro e w' ⟨rfl, hb⟩; obtain ⟨hc0, hf0, hl0⟩ := below_box (k := w.heap.size) hb (by first | omega | (simp; done) | (simp; omega)); replace hb := Own.join (by first | assumption | exact Own.alloc (by assumption) _ | exact Own.drew (by assumption) | exact Own.drew (Own.alloc (by assumption) _) | exact Own.alloc (Own.alloc (by assumption) _) _ | exact Own.alloc (Own.alloc (Own.alloc (by assumption) _) _) _ | exact Own.drewN (by assumption) _ | exact Own.drew (Own.start _) | exact Own.drewN (Own.start _) _ | exact Own.start _) hb)
      go_ret3
      exact ⟨rfl, by repeat (first | exact Below.refl _ _ | refine balloc ?_ _ | refine Below.drew ?_ | refine bdrewN ?_ _ | refine bto ?_ (Own.below (by assumption)) | refine bset ?_ (by first | (simp; done) | (simp; omega) | exact Own.le_w (by assumption) (by first | (simp; done) | (simp; omega))) _)⟩
    · have hg : segR zs x = (0, 0, 2) := by unfold segR; rw [if_pos hl, if_neg (by rw [h1]; simp)]
      rw [hg] at c0 ⊢
      have C0 := Lib.hid c0
      clear hg c0
      go_enter Try.func18, Try.ntmps18
      go_wp2_with (go_at_call 73; refine (C0.out _ ?_).mono ?_; (focus (exact HIN'.out.own (by first | assumption | exact Own.alloc (by assumption) _ | exact Own.drew (by assumption) | exact Own.drew (Own.alloc (by assumption) _)))); rintro e w' ⟨rfl, hb⟩; obtain ⟨hc0, hf0, hl0⟩ := below_box (k := w.heap.size) hb (by first | omega | (simp; done) | (simp; omega)); replace hb := Own.join (by first | assumption | exact Own.alloc (by assumption) _ | exact Own.drew (by assumption) | exact Own.drew (Own.alloc (by assumption) _) | exact Own.alloc (Own.alloc (by assumption) _) _ | exact Own.alloc (Own.alloc (Own.alloc (by assumption) _) _) _ | exact Own.drewN (by assumption) _ | exact Own.drew (Own.start _) | exact Own.drewN (Own.start _) _ | exact Own.start _) hb)
      go_ret3
      exact ⟨rfl, by repeat (first | exact Below.refl _ _ | refine balloc ?_ _ | refine Below.drew ?_ | refine bdrewN ?_ _ | refine bto ?_ (Own.below (by assumption)) | refine bset ?_ (by first | (simp; done) | (simp; omega) | exact Own.le_w (by assumption) (by first | (simp; done) | (simp; omega))) _)⟩
  · have hg : segR zs x = (0, 0, 1) := by unfold segR; rw [if_neg (by rw [hl]; simp)]
    rw [hg] at c0 ⊢
    have C0 := Lib.hid c0
    clear hg c0
    go_enter Try.func18, Try.ntmps18
    go_wp2_with (go_at_call 73; refine (C0.out _ ?_).mono ?_; (focus (exact HIN'.out.own (by first | assumption | exact Own.alloc (by assumption) _ | exact Own.drew (by assumption) | exact Own.drew (Own.alloc (by assumption) _)))); rintro e w' ⟨rfl, hb⟩; obtain ⟨hc0, hf0, hl0⟩ := below_box (k := w.heap.size) hb (by first | omega | (simp; done) | (simp; omega)); replace hb := Own.join (by first | assumption | exact Own.alloc (by assumption) _ | exact Own.drew (by assumption) | exact Own.drew (Own.alloc (by assumption) _) | exact Own.alloc (Own.alloc (by assumption) _) _ | exact Own.alloc (Own.alloc (Own.alloc (by assumption) _) _) _ | exact Own.drewN (by assumption) _ | exact Own.drew (Own.start _) | exact Own.drewN (Own.start _) _ | exact Own.start _) hb)
    go_ret3
    exact ⟨rfl, by repeat (first | exact Below.refl _ _ | refine balloc ?_ _ | refine Below.drew ?_ | refine bdrewN ?_ _ | refine bto ?_ (Own.below (by assumption)) | refine bset ?_ (by first | (simp; done) | (simp; omega) | exact Own.le_w (by assumption) (by first | (simp; done) | (simp; omega))) _)⟩

set_option maxRecDepth 100000 in
theorem i_SegmentAt (p : Option Addr) (n cap : Nat) (zs : List Seg) (x : Int) (w : World) (hin : Segs w p n zs) (hn : n ≤ 1048576) : Calls Try.prog 17 #[.agg #[.slice p n cap], .int .i64 x] w fun en w' => en = .returned (p3 (segR zs x)) ∧ Below w.heap.size w w' := by
  have HIN' : Hid (Segs (w.alloc (Obj.cells #[.slice p n cap] 26)) p n zs) := (hin.alloc _); have h0 := Own.start (w.alloc (Obj.cells #[.slice p n cap] 26)); clear hin
  rcases Bool.eq_false_or_eq_true (layOk zs) with hl | hl
  · have HL := Lib.hid (layOk_iff.1 hl)
    have c0 := fun (W : World) (h : Segs W p n zs) => i_isPosition p n cap zs x W h HL.out
    rcases Bool.eq_false_or_eq_true (inB x 0 (totN zs - 1)) with h1 | h1
    · have b1 := inB_iff.1 h1
      rw [show isPos zs x = true from h1] at c0
      have hg : segR zs x = ((segIx zs x : Int), x - preN zs (segIx zs x), 0) := by unfold segR; rw [if_pos hl, if_pos h1]
      rw [hg]
      have C0 := Lib.hid c0
      have HK := Lib.hid (segIx_at (zs := zs) (x := x) (by omega) (by omega))
      clear hg c0
      go_enter Try.func17, Try.ntmps17
      go_wp2_with first | (go_at_call 58; refine (i_IsLayout p n cap zs _ ?_ hn).mono ?_; (focus (exact HIN'.out.own (by first | assumption | exact Own.alloc (by assumption) _ | exact Own.drew (by assumption) | exact Own.drew (Own.alloc (by assumption) _)))); rintro e w' ⟨rfl, hb⟩; obtain ⟨hc0, hf0, hl0⟩ := below_box (k := w.heap.size) hb (by first | omega | (simp; done) | (simp; omega)); replace hb := Own.join (by first | assumption | exact Own.alloc (by assumption) _ | exact Own.drew (by assumption) | exact Own.drew (Own.alloc (by assumption) _) | exact Own.alloc (Own.alloc (by assumption) _) _ | exact Own.alloc (Own.alloc (Own.alloc (by assumption) _) _) _ | exact Own.drewN (by assumption) _ | exact Own.drew (Own.start _) | exact Own.drewN (Own.start _) _ | exact Own.start _) hb) | (go_at_call 71; refine (C0.out _ ?_).mono ?_; (focus (exact HIN'.out.own (by first | assumption | exact Own.alloc (by assumption) _ | exact Own.drew (by assumption) | exact Own.drew (Own.alloc (by assumption) _)))); rintro e w' ⟨rfl, hb⟩; obtain ⟨hc0, hf0, hl0⟩ := below_box (k := w.heap.size) hb (by first | omega | (simp; done) | (simp; omega)); replace hb := Own.join (by first | assumption | exact Own.alloc (by assumption) _ | exact Own.drew (by assumption) | exact Own.drew (Own.alloc (by assumption) _) | exact Own.alloc (Own.alloc (by assumption) _) _ | exact Own.alloc (Own.alloc (Own.alloc (by assumption) _) _) _ | exact Own.drewN (by assumption) _ | exact Own.drew (Own.start _) | exact Own.drewN (Own.start _) _ | exact Own.start _) hb) | (go_at_call 72; refine (i_segmentAt p n cap zs x (segIx zs x) _ ?_ HL.out HK.out).mono ?_; (focus (exact HIN'.out.own (by first | assumption | exact Own.alloc (by assumption) _ | exact Own.drew (by assumption) | exact Own.drew (Own.alloc (by assumption) _)))); rintro e w' ⟨rfl, hb⟩; obtain ⟨hc0, hf0, hl0⟩ := below_box (k := w.heap.size) hb (by first | omega | (simp; done) | (simp; omega)); replace hb := Own.join (by first | assumption | exact Own.alloc (by assumption) _ | exact Own.drew (by assumption) | exact Own.drew (Own.alloc (by assumption) _) | exact Own.alloc (Own.alloc (by assumption) _) _ | exact Own.alloc (Own.alloc (Own.alloc (by assumption) _) _) _ | exact Own.drewN (by assumption) _ | exact Own.drew (Own.start _) | exact Own.drewN (Own.start _) _ | exact Own.start _) hb)
      go_ret3
      exact ⟨rfl, by repeat (first | exact Below.refl _ _ | refine balloc ?_ _ | refine Below.drew ?_ | refine bdrewN ?_ _ | refine bto ?_ (Own.below (by assumption)) | refine bset ?_ (by first | (simp; done) | (simp; omega) | exact Own.le_w (by assumption) (by first | (simp; done) | (simp; omega))) _)⟩
    · rw [show isPos zs x = false from h1] at c0
      have hg : segR zs x = (0, 0, 2) := by unfold segR; rw [if_pos hl, if_neg (by rw [h1]; simp)]
      rw [hg]
      have C0 := Lib.hid c0
      clear hg c0
      go_enter Try.func17, Try.ntmps17
      go_wp2_with first | (go_at_call 58; refine (i_IsLayout p n cap zs _ ?_ hn).mono ?_; (focus (exact HIN'.out.own (by first | assumption | exact Own.alloc (by assumption) _ | exact Own.drew (by assumption) | exact Own.drew (Own.alloc (by assumption) _)))); rintro e w' ⟨rfl, hb⟩; obtain ⟨hc0, hf0, hl0⟩ := below_box (k := w.heap.size) hb (by first | omega | (simp; done) | (simp; omega)); replace hb := Own.join (by first | assumption | exact Own.alloc (by assumption) _ | exact Own.drew (by assumption) | exact Own.drew (Own.alloc (by assumption) _) | exact Own.alloc (Own.alloc (by assumption) _) _ | exact Own.alloc (Own.alloc (Own.alloc (by assumption) _) _) _ | exact Own.drewN (by assumption) _ | exact Own.drew (Own.start _) | exact Own.drewN (Own.start _) _ | exact Own.start _) hb) | (go_at_call 71; refine (C0.out _ ?_).mono ?_; (focus (exact HIN'.out.own (by first | assumption | exact Own.alloc (by assumption) _ | exact Own.drew (by assumption) | exact Own.drew (Own.alloc (by assumption) _)))); rintro e w' ⟨rfl, hb⟩; obtain ⟨hc0, hf0, hl0⟩ := below_box (k := w.heap.size) hb (by first | omega | (simp; done) | (simp; omega)); replace hb := Own.join (by first | assumption | exact Own.alloc (by assumption) _ | exact Own.drew (by assumption) | exact Own.drew (Own.alloc (by assumption) _) | exact Own.alloc (Own.alloc (by assumption) _) _ | exact Own.alloc (Own.alloc (Own.alloc (by assumption) _) _) _ | exact Own.drewN (by assumption) _ | exact Own.drew (Own.start _) | exact Own.drewN (Own.start _) _ | exact Own.start _) hb)
      go_ret3
      exact ⟨rfl, by repeat (first | exact Below.refl _ _ | refine balloc ?_ _ | refine Below.drew ?_ | refine bdrewN ?_ _ | refine bto ?_ (Own.below (by assumption)) | refine bset ?_ (by first | (simp; done) | (simp; omega) | exact Own.le_w (by assumption) (by first | (simp; done) | (simp; omega))) _)⟩
  · have hg : segR zs x = (0, 0, 1) := by unfold segR; rw [if_neg (by rw [hl]; simp)]
    rw [hg]
    clear hg
    go_enter Try.func17, Try.ntmps17
    go_wp2_with (go_at_call 58; refine (i_IsLayout p n cap zs _ ?_ hn).mono ?_; (focus (exact HIN'.out.own (by first | assumption | exact Own.alloc (by assumption) _ | exact Own.drew (by assumption) | exact Own.drew (Own.alloc (by assumption) _)))); rintro e w' ⟨rfl, hb⟩; obtain ⟨hc0, hf0, hl0⟩ := below_box (k := w.heap.size) hb (by first | omega | (simp; done) | (simp; omega)); replace hb := Own.join (by first | assumption | exact Own.alloc (by assumption) _ | exact Own.drew (by assumption) | exact Own.drew (Own.alloc (by assumption) _) | exact Own.alloc (Own.alloc (by assumption) _) _ | exact Own.alloc (Own.alloc (Own.alloc (by assumption) _) _) _ | exact Own.drewN (by assumption) _ | exact Own.drew (Own.start _) | exact Own.drewN (Own.start _) _ | exact Own.start _) hb)
    go_ret3
    exact ⟨rfl, by repeat (first | exact Below.refl _ _ | refine balloc ?_ _ | refine Below.drew ?_ | refine bdrewN ?_ _ | refine bto ?_ (Own.below (by assumption)) | refine bset ?_ (by first | (simp; done) | (simp; omega) | exact Own.le_w (by assumption) (by first | (simp; done) | (simp; omega))) _)⟩

def hgtAt (zs : List Seg) (x : Int) (k : Nat) : Int := preR zs k + floorG ((sg zs k).r * (x - preN zs k)) (sg zs k).n
def hgtR (zs : List Seg) (x : Int) : Int × Int := if layOk zs = true then (if inB x 0 (totN zs - 1) = true then (hgtAt zs x (segIx zs x), 0) else (0, 2)) else (0, 1)
theorem hgt_bd {a b : Int} (ha : -100000 ≤ a ∧ a ≤ 100000) (hb : 0 ≤ b ∧ b ≤ 200000) : -20000000000 ≤ a * b ∧ a * b ≤ 20000000000 := by
  have h1 : a * b ≤ 100000 * b := Int.mul_le_mul_of_nonneg_right ha.2 hb.1
  have h2 : (-100000) * b ≤ a * b := Int.mul_le_mul_of_nonneg_right ha.1 hb.1
  omega
set_option maxRecDepth 100000 in
theorem s_HeightAt (p : Option Addr) (n cap : Nat) (zs : List Seg) (x : Int) (w : World) (hin : Segs w p n zs) : Calls Try.prog 31 #[.agg #[.slice p n cap], .int .i64 x] w fun en w' => en = .returned (p2 (hgtR zs x)) ∧ Below w.heap.size w w' := by
  have hz := hin.1
  have HIN' : Hid (Segs (w.alloc (Obj.cells #[.slice p n cap] 26)) p n zs) := (hin.alloc _); have h0 := Own.start (w.alloc (Obj.cells #[.slice p n cap] 26)); clear hin
  have c0 := fun (W : World) (h : Segs W p n zs) => s_l03Code p n cap zs x W h
  rcases Bool.eq_false_or_eq_true (layOk zs) with hl | hl
  · have HL := Lib.hid (layOk_iff.1 hl)
    rcases Bool.eq_false_or_eq_true (inB x 0 (totN zs - 1)) with h1 | h1
    · have b1 := inB_iff.1 h1
      have hg : segR zs x = ((segIx zs x : Int), x - preN zs (segIx zs x), 0) := by unfold segR; rw [if_pos hl, if_pos h1]
      have hh : hgtR zs x = (hgtAt zs x (segIx zs x), 0) := by unfold hgtR; rw [if_pos hl, if_pos h1]
      rw [hg] at c0
      rw [hh]
      have C0 := Lib.hid c0
      have hK := segIx_at (zs := zs) (x := x) (by omega) (by omega)
      clear hg hh c0 h1
      generalize segIx zs x = k0 at *
      have hkn : k0 < n := by have := hK.1; omega
      have hn : n ≤ 24 := by have := HL.out.2.1; omega
      have HA : Hid (AllOk zs n) := fun i hi => HL.out.2.2.1 i (by omega)
      have b2 := ok_bd (HA.out k0 hkn)
      have b3 := preN_bd (zs := zs) (k := k0) (fun i hi => HA.out i (by omega))
      have b4 := preR_bd (zs := zs) (k := k0) (fun i hi => HA.out i (by omega))
      have b5 : 0 ≤ x - preN zs k0 ∧ x - preN zs k0 < (sg zs k0).n := by have h1 := hK.2.1; have h2 := hK.2.2; simp only [preN] at h2; omega
      have HK := Lib.hid hK
      have b6 := hgt_bd (a := (sg zs k0).r) (b := x - preN zs k0) (by omega) (by omega)
      have b7 := floorG_bd (a := (sg zs k0).r * (x - preN zs k0)) (b := (sg zs k0).n) (M := 20000000000) (by omega) (by omega)
      have HZ := Lib.hid hz
      clear hz hK hl
      go_enter Try.func31, Try.ntmps31
      go_wp2_with first | (go_at_call 73; refine (C0.out _ ?_).mono ?_; (focus (exact HIN'.out.own (by first | assumption | exact Own.alloc (by assumption) _ | exact Own.drew (by assumption) | exact Own.drew (Own.alloc (by assumption) _)))); rintro e w' ⟨rfl, hb⟩; obtain ⟨hc0, hf0, hl0⟩ := below_box (k := w.heap.size) hb (by first | omega | (simp; done) | (simp; omega)); replace hb := Own.join (by first | assumption | exact Own.alloc (by assumption) _ | exact Own.drew (by assumption) | exact Own.drew (Own.alloc (by assumption) _) | exact Own.alloc (Own.alloc (by assumption) _) _ | exact Own.alloc (Own.alloc (Own.alloc (by assumption) _) _) _ | exact Own.drewN (by assumption) _ | exact Own.drew (Own.start _) | exact Own.drewN (Own.start _) _ | exact Own.start _) hb) | (go_at_call 74; refine (s_l03At p n cap zs x k0 _ ?_ HL.out HK.out).mono ?_; (focus (exact HIN'.out.own (by first | assumption | exact Own.alloc (by assumption) _ | exact Own.drew (by assumption) | exact Own.drew (Own.alloc (by assumption) _)))); rintro e w' ⟨rfl, hb⟩; obtain ⟨hc0, hf0, hl0⟩ := below_box (k := w.heap.size) hb (by first | omega | (simp; done) | (simp; omega)); replace hb := Own.join (by first | assumption | exact Own.alloc (by assumption) _ | exact Own.drew (by assumption) | exact Own.drew (Own.alloc (by assumption) _) | exact Own.alloc (Own.alloc (by assumption) _) _ | exact Own.alloc (Own.alloc (Own.alloc (by assumption) _) _) _ | exact Own.drewN (by assumption) _ | exact Own.drew (Own.start _) | exact Own.drewN (Own.start _) _ | exact Own.start _) hb)
      have HOB : Own (w.alloc (Obj.cells #[.slice p n cap] 26)) w' := by assumption
      generalize w' = wB at *
      go_loopw [9, 10] (fun a i wr => ∃ j : Nat, j ≤ k0 ∧ i = .int .i64 j ∧ a = .int .i64 (preR zs j) ∧ Own (w.alloc (Obj.cells #[.slice p n cap] 26)) wr) (fun _ i _ => (k0 - intOf i).toNat)
      case atStart => exact ⟨0, Nat.zero_le _, rfl, rfl, HOB⟩
      case round =>
        obtain ⟨j, hj, rfl, rfl, hown⟩ := hrel
        obtain ⟨wA, rfl⟩ : ∃ wA : World, wA = wr := ⟨_, rfl⟩
        have HO := Lib.hid hown
        obtain ⟨hbx, hbf, hbl⟩ := below_box (k := w.heap.size) hown.below (by simp)
        have hbx := hbx 0
        simp at hbx
        obtain ⟨b, off, rfl, hlb, hc⟩ := (HIN'.out.own hown).2.2 (by omega)
        obtain ⟨-, d1, d2, -, -, -, -⟩ := hc k0 hkn
        have b8 := preR_bd (zs := zs) (k := j) (fun i hi => HA.out i (by omega))
        have b9 := ok_bd (HA.out j (by omega))
        obtain ⟨-, -, c2, -, -, -, -⟩ := hc j (by omega)
        have hkni : (k0 : Int) < (n : Int) := by omega
        by_cases hlt : j < k0
        · have hji : (j : Int) < (n : Int) := by omega
          have hjk : (j : Int) < (k0 : Int) := by omega
          have HR := Lib.hid (show preR zs (j + 1) = preR zs j + (sg zs j).r from rfl)
          clear hc hown hbf d1 d2 b2 b3 b4 b5 b6 b7
          generalize preR zs j = y at *
          generalize (sg zs j).r = z at *
          go_wp2
          go_roundw
          case rel => exact ⟨j + 1, by omega, by go_num, by rw [HR.out], HO.out⟩
          case measure => simp [intOf]; omega
        · obtain rfl : j = k0 := by omega
          have hne : ¬ (sg zs j).n = 0 := by omega
          have HH := Lib.hid (show hgtAt zs x j = preR zs j + floorG ((sg zs j).r * (x - preN zs j)) (sg zs j).n from rfl)
          clear hc hown hbf c2 b8 b9
          obtain ⟨yr, hyr⟩ : ∃ y, y = preR zs j := ⟨_, rfl⟩
          obtain ⟨yn, hyn⟩ : ∃ y, y = x - preN zs j := ⟨_, rfl⟩
          obtain ⟨r0, hr0⟩ : ∃ y, y = (sg zs j).r := ⟨_, rfl⟩
          obtain ⟨n0, hn0⟩ : ∃ y, y = (sg zs j).n := ⟨_, rfl⟩
          rw [← hyn, ← hr0] at b6
          rw [← hyn, ← hr0, ← hn0] at b7
          rw [← hyr] at b4 ⊢
          rw [← hyn] at b5 ⊢
          rw [← hn0] at d1 hne b5
          rw [← hr0] at d2
          have hw1 : IntKind.i64.wrap (r0 * yn) = r0 * yn := IntWalk.i64_in _ (by omega)
          have hw2 : IntKind.i64.wrap (yr + floorG (r0 * yn) n0) = yr + floorG (r0 * yn) n0 := IntWalk.i64_in _ (by omega)
          rw [← hyr, ← hyn, ← hr0, ← hn0] at HH
          clear hyr hyn hr0 hn0 b2 b3
          go_wp2
          go_quiet ((first | (go_at_call 88; exact quiet_left (s_l01Floor _ _ (by omega) hne _)) | (go_at_call 88; exact quiet_add_left (s_l01Floor _ _ (by omega) hne _))))
          go_wp2
          go_ret2
          exact ⟨ret_int2 HH.out.symm rfl, bdrewN (bto (balloc (Below.refl _ _) _) HO.out.below) _⟩
    · have hg : segR zs x = (0, 0, 2) := by unfold segR; rw [if_pos hl, if_neg (by rw [h1]; simp)]
      have hh : hgtR zs x = (0, 2) := by unfold hgtR; rw [if_pos hl, if_neg (by rw [h1]; simp)]
      rw [hg] at c0
      rw [hh]
      have C0 := Lib.hid c0
      clear hg hh c0 hz
      go_enter Try.func31, Try.ntmps31
      go_wp2_with (go_at_call 73; refine (C0.out _ ?_).mono ?_; (focus (exact HIN'.out.own (by first | assumption | exact Own.alloc (by assumption) _ | exact Own.drew (by assumption) | exact Own.drew (Own.alloc (by assumption) _)))); rintro e w' ⟨rfl, hb⟩; obtain ⟨hc0, hf0, hl0⟩ := below_box (k := w.heap.size) hb (by first | omega | (simp; done) | (simp; omega)); replace hb := Own.join (by first | assumption | exact Own.alloc (by assumption) _ | exact Own.drew (by assumption) | exact Own.drew (Own.alloc (by assumption) _) | exact Own.alloc (Own.alloc (by assumption) _) _ | exact Own.alloc (Own.alloc (Own.alloc (by assumption) _) _) _ | exact Own.drewN (by assumption) _ | exact Own.drew (Own.start _) | exact Own.drewN (Own.start _) _ | exact Own.start _) hb)
      go_ret2
      exact ⟨rfl, by repeat (first | exact Below.refl _ _ | refine balloc ?_ _ | refine Below.drew ?_ | refine bdrewN ?_ _ | refine bto ?_ (Own.below (by assumption)) | refine bset ?_ (by first | (simp; done) | (simp; omega) | exact Own.le_w (by assumption) (by first | (simp; done) | (simp; omega))) _)⟩
  · have hg : segR zs x = (0, 0, 1) := by unfold segR; rw [if_neg (by rw [hl]; simp)]
    have hh : hgtR zs x = (0, 1) := by unfold hgtR; rw [if_neg (by rw [hl]; simp)]
    rw [hg] at c0
    rw [hh]
    have C0 := Lib.hid c0
    clear hg hh c0 hz
    go_enter Try.func31, Try.ntmps31
    go_wp2_with (go_at_call 73; refine (C0.out _ ?_).mono ?_; (focus (exact HIN'.out.own (by first | assumption | exact Own.alloc (by assumption) _ | exact Own.drew (by assumption) | exact Own.drew (Own.alloc (by assumption) _)))); rintro e w' ⟨rfl, hb⟩; obtain ⟨hc0, hf0, hl0⟩ := below_box (k := w.heap.size) hb (by first | omega | (simp; done) | (simp; omega)); replace hb := Own.join (by first | assumption | exact Own.alloc (by assumption) _ | exact Own.drew (by assumption) | exact Own.drew (Own.alloc (by assumption) _) | exact Own.alloc (Own.alloc (by assumption) _) _ | exact Own.alloc (Own.alloc (Own.alloc (by assumption) _) _) _ | exact Own.drewN (by assumption) _ | exact Own.drew (Own.start _) | exact Own.drewN (Own.start _) _ | exact Own.start _) hb)
    go_ret2
    exact ⟨rfl, by repeat (first | exact Below.refl _ _ | refine balloc ?_ _ | refine Below.drew ?_ | refine bdrewN ?_ _ | refine bto ?_ (Own.below (by assumption)) | refine bset ?_ (by first | (simp; done) | (simp; omega) | exact Own.le_w (by assumption) (by first | (simp; done) | (simp; omega))) _)⟩

set_option maxRecDepth 100000 in
theorem i_HeightAt (p : Option Addr) (n cap : Nat) (zs : List Seg) (x : Int) (w : World) (hin : Segs w p n zs) (hn : n ≤ 1048576) (hcap : n ≤ cap) : Calls Try.prog 30 #[.agg #[.slice p n cap], .int .i64 x] w fun en w' => en = .returned (p2 (hgtR zs x)) ∧ Below w.heap.size w w' := by
  have hz := hin.1
  have HIN' : Hid (Segs (w.alloc (Obj.cells #[.slice p n cap] 26)) p n zs) := (hin.alloc _); have h0 := Own.start (w.alloc (Obj.cells #[.slice p n cap] 26)); clear hin
  have c0 := fun (W : World) (h : Segs W p n zs) => i_SegmentAt p n cap zs x W h hn
  rcases Bool.eq_false_or_eq_true (layOk zs) with hl | hl
  · have HL := Lib.hid (layOk_iff.1 hl)
    rcases Bool.eq_false_or_eq_true (inB x 0 (totN zs - 1)) with h1 | h1
    · have b1 := inB_iff.1 h1
      have hg : segR zs x = ((segIx zs x : Int), x - preN zs (segIx zs x), 0) := by unfold segR; rw [if_pos hl, if_pos h1]
      have hh : hgtR zs x = (hgtAt zs x (segIx zs x), 0) := by unfold hgtR; rw [if_pos hl, if_pos h1]
      rw [hg] at c0
      rw [hh]
      have C0 := Lib.hid c0
      have hK := segIx_at (zs := zs) (x := x) (by omega) (by omega)
      clear hg hh c0 h1
      generalize segIx zs x = k0 at *
      have hkn : k0 < n := by have := hK.1; omega
      have hn24 : n ≤ 24 := by have := HL.out.2.1; omega
      have HA : Hid (AllOk zs n) := fun i hi => HL.out.2.2.1 i (by omega)
      have b2 := ok_bd (HA.out k0 hkn)
      have b3 := preN_bd (zs := zs) (k := k0) (fun i hi => HA.out i (by omega))
      have b4 := preR_bd (zs := zs) (k := k0) (fun i hi => HA.out i (by omega))
      have b5 : 0 ≤ x - preN zs k0 ∧ x - preN zs k0 < (sg zs k0).n := by have h1 := hK.2.1; have h2 := hK.2.2; simp only [preN] at h2; omega
      have b6 := hgt_bd (a := (sg zs k0).r) (b := x - preN zs k0) (by omega) (by omega)
      have b7 := floorG_bd (a := (sg zs k0).r * (x - preN zs k0)) (b := (sg zs k0).n) (M := 20000000000) (by omega) (by omega)
      have HZ := Lib.hid hz
      have hkni : (k0 : Int) < (n : Int) := by omega
      have hkc : k0 ≤ cap := by omega
      have hkci : (k0 : Int) ≤ (cap : Int) := by omega
      have hk0i : (0 : Int) ≤ (k0 : Int) := by omega
      clear hz hK hl hcap
      go_enter Try.func30, Try.ntmps30
      go_wp2_with first | (go_at_call 17; refine (C0.out _ ?_).mono ?_; (focus (exact HIN'.out.own (by first | assumption | exact Own.alloc (by assumption) _ | exact Own.drew (by assumption) | exact Own.drew (Own.alloc (by assumption) _)))); rintro e w' ⟨rfl, hb⟩; obtain ⟨hc0, hf0, hl0⟩ := below_box (k := w.heap.size) hb (by first | omega | (simp; done) | (simp; omega)); replace hb := Own.join (by first | assumption | exact Own.alloc (by assumption) _ | exact Own.drew (by assumption) | exact Own.drew (Own.alloc (by assumption) _) | exact Own.alloc (Own.alloc (by assumption) _) _ | exact Own.alloc (Own.alloc (Own.alloc (by assumption) _) _) _ | exact Own.drewN (by assumption) _ | exact Own.drew (Own.start _) | exact Own.drewN (Own.start _) _ | exact Own.start _) hb)
      have HOB : Own (w.alloc (Obj.cells #[.slice p n cap] 26)) w' := by assumption
      generalize w' = wB at *
      go_loopw [9, 28] (fun a i wr => ∃ j : Nat, j ≤ k0 ∧ i = .int .i64 j ∧ a = .int .i64 (preR zs j) ∧ Own (w.alloc (Obj.cells #[.slice p n cap] 26)) wr) (fun _ i _ => (k0 - intOf i).toNat)
      case atStart => exact ⟨0, Nat.zero_le _, rfl, rfl, HOB⟩
      case round =>
        obtain ⟨j, hj, rfl, rfl, hown⟩ := hrel
        obtain ⟨wA, rfl⟩ : ∃ wA : World, wA = wr := ⟨_, rfl⟩
        have HO := Lib.hid hown
        obtain ⟨hbx, hbf, hbl⟩ := below_box (k := w.heap.size) hown.below (by simp)
        have hbx := hbx 0
        simp at hbx
        obtain ⟨b, off, rfl, hlb, hc⟩ := (HIN'.out.own hown).2.2 (by omega)
        have b8 := preR_bd (zs := zs) (k := j) (fun i hi => HA.out i (by omega))
        have b9 := ok_bd (HA.out j (by omega))
        by_cases hlt : j < k0
        · obtain ⟨c0, c1, c2, c3, c4, c5, c6⟩ := hc j (by omega)
          have hji : (j : Int) < (k0 : Int) := by omega
          have HR := Lib.hid (show preR zs (j + 1) = preR zs j + (sg zs j).r from rfl)
          obtain ⟨s, hs⟩ : ∃ s, s = sg zs j := ⟨_, rfl⟩
          rw [← hs] at c0 c1 c2 c3 c4 c5 c6 b9 HR
          clear hc hown hbf b2 b3 b4 b5 b6 b7 hs
          generalize preR zs j = y at *
          go_wp2
          go_roundw
          case rel => exact ⟨j + 1, by omega, by go_num, by rw [HR.out], HO.out.alloc _⟩
          case measure => simp [intOf]; omega
        · obtain rfl : j = k0 := by omega
          obtain ⟨c0, c1, c2, c3, c4, c5, c6⟩ := hc j (by omega)
          have hne : ¬ (sg zs j).n = 0 := by omega
          have HH := Lib.hid (show hgtAt zs x j = preR zs j + floorG ((sg zs j).r * (x - preN zs j)) (sg zs j).n from rfl)
          obtain ⟨s, hs⟩ : ∃ s, s = sg zs j := ⟨_, rfl⟩
          obtain ⟨yr, hyr⟩ : ∃ y, y = preR zs j := ⟨_, rfl⟩
          obtain ⟨yn, hyn⟩ : ∃ y, y = x - preN zs j := ⟨_, rfl⟩
          rw [← hs] at c0 c1 c2 c3 c4 c5 c6 hne
          rw [← hyn, ← hs] at b6
          rw [← hyn, ← hs] at b7
          rw [← hyr] at b4 ⊢
          rw [← hyn, ← hs] at b5
          rw [← hyn]
          rw [← hyr, ← hyn, ← hs] at HH
          clear hyr hyn hs b2 b3 b8 b9 hc hown hbf
          have hw1 : wrap64 (s.r * yn) = s.r * yn := wrap64_in (by omega) (by omega)
          go_wp2_with (go_at_call 87; refine (i_down _ _ (by omega) hne _).mono ?_; rintro e w' ⟨rfl, rfl⟩)
          go_ret2
          exact ⟨ret_int2 HH.out.symm rfl, by repeat (first | exact Below.refl _ _ | refine balloc ?_ _ | refine Below.drew ?_ | refine bdrewN ?_ _ | refine bto ?_ (Own.below (by assumption)) | refine bset ?_ (by first | (simp; done) | (simp; omega) | exact Own.le_w (by assumption) (by first | (simp; done) | (simp; omega))) _)⟩
    · have hg : segR zs x = (0, 0, 2) := by unfold segR; rw [if_pos hl, if_neg (by rw [h1]; simp)]
      have hh : hgtR zs x = (0, 2) := by unfold hgtR; rw [if_pos hl, if_neg (by rw [h1]; simp)]
      rw [hg] at c0
      rw [hh]
      have C0 := Lib.hid c0
      clear hg hh c0 hz
      go_enter Try.func30, Try.ntmps30
      go_wp2_with (go_at_call 17; refine (C0.out _ ?_).mono ?_; (focus (exact HIN'.out.own (by first | assumption | exact Own.alloc (by assumption) _ | exact Own.drew (by assumption) | exact Own.drew (Own.alloc (by assumption) _)))); rintro e w' ⟨rfl, hb⟩; obtain ⟨hc0, hf0, hl0⟩ := below_box (k := w.heap.size) hb (by first | omega | (simp; done) | (simp; omega)); replace hb := Own.join (by first | assumption | exact Own.alloc (by assumption) _ | exact Own.drew (by assumption) | exact Own.drew (Own.alloc (by assumption) _) | exact Own.alloc (Own.alloc (by assumption) _) _ | exact Own.alloc (Own.alloc (Own.alloc (by assumption) _) _) _ | exact Own.drewN (by assumption) _ | exact Own.drew (Own.start _) | exact Own.drewN (Own.start _) _ | exact Own.start _) hb)
      go_ret2
      exact ⟨rfl, by repeat (first | exact Below.refl _ _ | refine balloc ?_ _ | refine Below.drew ?_ | refine bdrewN ?_ _ | refine bto ?_ (Own.below (by assumption)) | refine bset ?_ (by first | (simp; done) | (simp; omega) | exact Own.le_w (by assumption) (by first | (simp; done) | (simp; omega))) _)⟩
  · have hg : segR zs x = (0, 0, 1) := by unfold segR; rw [if_neg (by rw [hl]; simp)]
    have hh : hgtR zs x = (0, 1) := by unfold hgtR; rw [if_neg (by rw [hl]; simp)]
    rw [hg] at c0
    rw [hh]
    have C0 := Lib.hid c0
    clear hg hh c0 hz
    go_enter Try.func30, Try.ntmps30
    go_wp2_with (go_at_call 17; refine (C0.out _ ?_).mono ?_; (focus (exact HIN'.out.own (by first | assumption | exact Own.alloc (by assumption) _ | exact Own.drew (by assumption) | exact Own.drew (Own.alloc (by assumption) _)))); rintro e w' ⟨rfl, hb⟩; obtain ⟨hc0, hf0, hl0⟩ := below_box (k := w.heap.size) hb (by first | omega | (simp; done) | (simp; omega)); replace hb := Own.join (by first | assumption | exact Own.alloc (by assumption) _ | exact Own.drew (by assumption) | exact Own.drew (Own.alloc (by assumption) _) | exact Own.alloc (Own.alloc (by assumption) _) _ | exact Own.alloc (Own.alloc (Own.alloc (by assumption) _) _) _ | exact Own.drewN (by assumption) _ | exact Own.drew (Own.start _) | exact Own.drewN (Own.start _) _ | exact Own.start _) hb)
    go_ret2
    exact ⟨rfl, by repeat (first | exact Below.refl _ _ | refine balloc ?_ _ | refine Below.drew ?_ | refine bdrewN ?_ _ | refine bto ?_ (Own.below (by assumption)) | refine bset ?_ (by first | (simp; done) | (simp; omega) | exact Own.le_w (by assumption) (by first | (simp; done) | (simp; omega))) _)⟩

end Go.Proofs.Ytgkfnggnhphboaa
