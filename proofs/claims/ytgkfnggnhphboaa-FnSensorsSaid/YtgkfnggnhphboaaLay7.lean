/- Contracts and lemmas for the proofs of this seat: Lay7. -/
import Derived.Test.YtgkfnggnhphboaaBase
import Derived.Test.YtgkfnggnhphboaaNum
import Derived.Test.YtgkfnggnhphboaaIv
import Derived.Test.YtgkfnggnhphboaaIv2
import Derived.Test.YtgkfnggnhphboaaDiv
import Derived.Test.YtgkfnggnhphboaaRoot
import Derived.Test.YtgkfnggnhphboaaEn
import Derived.Test.YtgkfnggnhphboaaSeg
import Derived.Test.YtgkfnggnhphboaaList
import Derived.Test.YtgkfnggnhphboaaLay
import Derived.Test.YtgkfnggnhphboaaLay2
import Derived.Test.YtgkfnggnhphboaaLay3
import Derived.Test.YtgkfnggnhphboaaLay4
import Derived.Test.YtgkfnggnhphboaaLay5
import Derived.Test.YtgkfnggnhphboaaLay6
import Derived.Lib.Hide
import Derived.BigQuiet
import Derived.Deep.QuietTactic
import Derived.Deep.OwnRows
import Derived.Deep.LoopGhost
import Derived.Deep.RegionHeld3
import Derived.Deep.DeepCutAuto
import Derived.StillTailTactics
import Derived.Deep.AppendLies
import Derived.Deep.DrawnRows
import Derived.Outline
namespace Go.Proofs.Ytgkfnggnhphboaa
open Go.RowKit Go.Deep
set_option maxHeartbeats 2000000
set_option linter.unusedVariables false
set_option linter.unusedSimpArgs false

attribute [local go_sem] lt_2 lt_3 lt_4 lt_5 lt_6
theorem ints_new1 (w : World) (o : Obj) (t : TypeId) (x : Int) : Ints .i64 ((w.alloc o).alloc (.cells #[.int .i64 x] t)) (some ⟨w.heap.size + 1, 0, none⟩) 1 [x] := by
  refine ⟨rfl, by unfold maxLen; omega, fun _ => ⟨w.heap.size + 1, 0, rfl, fun i hi => ?_⟩⟩
  obtain rfl : i = 0 := by omega
  simp
theorem ints_new2 (w : World) (o : Obj) (t : TypeId) (x y : Int) : Ints .i64 ((w.alloc o).alloc (.cells #[.int .i64 x, .int .i64 y] t)) (some ⟨w.heap.size + 1, 0, none⟩) 2 [x, y] := by
  refine ⟨rfl, by unfold maxLen; omega, fun _ => ⟨w.heap.size + 1, 0, rfl, fun i hi => ?_⟩⟩
  match i, hi with
  | 0, _ => simp
  | 1, _ => simp
theorem tcode1 (zs : List Seg) (x y : Int) : tcode zs [x] y = code05 zs x y 1 40000 := by
  unfold tcode code05 isPos
  cases h : inB x 0 (totN zs - 1) <;> simp [h]
theorem tcode2 (zs : List Seg) (x y z : Int) : tcode zs [x, y] z = if layOk zs = true then (if inB x 0 (totN zs - 1) = true ∧ inB y 0 (totN zs - 1) = true ∧ inB z 1 (min 40000 (totN zs)) = true then 0 else 2) else 1 := by
  unfold tcode isPos
  cases h : inB x 0 (totN zs - 1) <;> cases h2 : inB y 0 (totN zs - 1) <;> simp [h, h2]

set_option maxRecDepth 100000 in
theorem i_RearOf (p : Option Addr) (n cap : Nat) (zs : List Seg) (x y : Int) (w : World) (hin : Segs w p n zs) (hn : n ≤ 1048576) : Calls Try.prog 25 #[.agg #[.slice p n cap], .int .i64 x, .int .i64 y] w fun en w' => en = .returned (p2 (rearR zs x y)) ∧ Below w.heap.size w w' := by
  have c0 := i_trainCode p n cap zs y (some ⟨w.heap.size + 1, 0, none⟩) 1 1 [x] ((w.alloc (Obj.cells #[.slice p n cap] 26)).alloc (Obj.cells #[.int .i64 x] 2)) ((hin.alloc _).alloc _) hn (ints_new1 _ _ _ _)
  rw [tcode1] at c0
  have HIN' : Hid (Segs ((w.alloc (Obj.cells #[.slice p n cap] 26)).alloc (Obj.cells #[.int .i64 x] 2)) p n zs) := ((hin.alloc _).alloc _); have h0 := Own.start ((w.alloc (Obj.cells #[.slice p n cap] 26)).alloc (Obj.cells #[.int .i64 x] 2)); clear hin
  rcases Bool.eq_false_or_eq_true (layOk zs) with hl | hl
  · have HL := Lib.hid (layOk_iff.1 hl)
    obtain ⟨-, t1, t2⟩ := lay_bd HL.out
    rcases Bool.eq_false_or_eq_true (inB x 0 (totN zs - 1)) with h1 | h1
    · rcases Bool.eq_false_or_eq_true (inB y 1 (min 40000 (totN zs))) with h2 | h2
      · have hr : rearR zs x y = ((x - y + 1) % totN zs, 0) := by simp [rearR, hl, h1, h2]
        rw [code05_ok hl h1 h2] at c0
        have C0 := Lib.hid c0
        have b1 := inB_iff.1 h1
        have b2 : 1 ≤ y ∧ y ≤ totN zs := by have := inB_iff.1 h2; omega
        rw [hr]; clear hr c0 hl h1 h2
        go_enter Try.func25, Try.ntmps25
        go_wp2_with fail
        refine C0.out.mono ?_
        rintro e w' ⟨rfl, hb⟩
        obtain ⟨hc, hf, hl⟩ := below_box (k := w.heap.size) hb (by simp; omega)
        replace hb := h0.join hb
        go_wp2_with (go_at_call 84; refine (i_rear p n cap zs x y (by omega) (by omega) _ ?_ HL.out).mono ?_; (focus (exact HIN'.out.own (by first | assumption | exact Own.alloc (by assumption) _ | exact Own.drew (by assumption) | exact Own.drew (Own.alloc (by assumption) _)))); rintro e w' ⟨rfl, hb⟩; obtain ⟨hc0, hf0, hl0⟩ := below_box (k := w.heap.size) hb (by first | omega | (simp; done) | (simp; omega)); replace hb := Own.join (by first | assumption | exact Own.alloc (by assumption) _ | exact Own.drew (by assumption) | exact Own.drew (Own.alloc (by assumption) _) | exact Own.alloc (Own.alloc (by assumption) _) _ | exact Own.alloc (Own.alloc (Own.alloc (by assumption) _) _) _ | exact Own.drewN (by assumption) _ | exact Own.drew (Own.start _) | exact Own.drewN (Own.start _) _ | exact Own.start _) hb)
        go_ret2
        exact ⟨rfl, by repeat (first | exact Below.refl _ _ | refine balloc ?_ _ | refine Below.drew ?_ | refine bdrewN ?_ _ | refine bto ?_ (Own.below (by assumption)) | refine bset ?_ (by first | (simp; done) | (simp; omega) | exact Own.le_w (by assumption) (by first | (simp; done) | (simp; omega))) _)⟩
      · have hr : rearR zs x y = (0, 2) := by simp only [rearR, hl, h2]; simp
        rw [code05_bad2 hl h2] at c0
        have C0 := Lib.hid c0
        rw [hr]; clear hr c0 hl h1 h2
        go_enter Try.func25, Try.ntmps25
        go_wp2_with fail
        refine C0.out.mono ?_
        rintro e w' ⟨rfl, hb⟩
        replace hb := h0.join hb
        go_wp2
        go_ret2
        exact ⟨rfl, by repeat (first | exact Below.refl _ _ | refine balloc ?_ _ | refine Below.drew ?_ | refine bdrewN ?_ _ | refine bto ?_ (Own.below (by assumption)) | refine bset ?_ (by first | (simp; done) | (simp; omega) | exact Own.le_w (by assumption) (by first | (simp; done) | (simp; omega))) _)⟩
    · have hr : rearR zs x y = (0, 2) := by simp only [rearR, hl, h1]; simp
      rw [code05_bad1 hl h1] at c0
      have C0 := Lib.hid c0
      rw [hr]; clear hr c0 hl h1
      go_enter Try.func25, Try.ntmps25
      go_wp2_with fail
      refine C0.out.mono ?_
      rintro e w' ⟨rfl, hb⟩
      replace hb := h0.join hb
      go_wp2
      go_ret2
      exact ⟨rfl, by repeat (first | exact Below.refl _ _ | refine balloc ?_ _ | refine Below.drew ?_ | refine bdrewN ?_ _ | refine bto ?_ (Own.below (by assumption)) | refine bset ?_ (by first | (simp; done) | (simp; omega) | exact Own.le_w (by assumption) (by first | (simp; done) | (simp; omega))) _)⟩
  · have hr : rearR zs x y = (0, 1) := by simp [rearR, hl]
    rw [code05_no hl] at c0
    have C0 := Lib.hid c0
    rw [hr]; clear hr c0 hl
    go_enter Try.func25, Try.ntmps25
    go_wp2_with fail
    refine C0.out.mono ?_
    rintro e w' ⟨rfl, hb⟩
    replace hb := h0.join hb
    go_wp2
    go_ret2
    exact ⟨rfl, by repeat (first | exact Below.refl _ _ | refine balloc ?_ _ | refine Below.drew ?_ | refine bdrewN ?_ _ | refine bto ?_ (Own.below (by assumption)) | refine bset ?_ (by first | (simp; done) | (simp; omega) | exact Own.le_w (by assumption) (by first | (simp; done) | (simp; omega))) _)⟩

def apartB (t a b m : Int) : Bool := decide (m ≤ (b - a) % t) && decide (m ≤ t - (b - a) % t)
def apartI (t a b m : Int) : Bool := decide (m ≤ (a - b) % t) && decide (m ≤ (b - a) % t)
theorem neg_emod_pos {t c : Int} (ht : 0 < t) (h : c % t ≠ 0) : (-c) % t = t - c % t := by
  have h1 := Int.emod_nonneg c (show t ≠ 0 by omega)
  have h2 := Int.emod_lt_of_pos c ht
  have e : -c = (t - c % t) + t * (-(c / t) - 1) := by
    have := Int.mul_ediv_add_emod c t
    rw [Int.mul_sub, Int.mul_neg]; omega
  rw [e, Int.add_mul_emod_self_left, Int.emod_eq_of_lt (by omega) (by omega)]
theorem apart_eq {t a b m : Int} (ht : 0 < t) (hm : 1 ≤ m) : apartI t a b m = apartB t a b m := by
  unfold apartI apartB
  have e : a - b = -(b - a) := by omega
  by_cases h : (b - a) % t = 0
  · rw [h, show decide (m ≤ (0 : Int)) = false from by simp; omega, Bool.and_false, Bool.false_and]
  · rw [e, neg_emod_pos ht h, Bool.and_comm]
theorem gap_eq {t a b m : Int} (ht : 0 < t) (hm : 1 ≤ m) (h : apartB t a b m = true) : ((b - m + 1) % t - a - 1) % t = (b - a) % t - m := by
  unfold apartB at h
  simp only [Bool.and_eq_true, decide_eq_true_eq] at h
  have h2 := Int.emod_lt_of_pos (b - a) ht
  have e1 : ((b - m + 1) % t - a - 1) % t = (b - a - m) % t := by
    have := Int.mul_ediv_add_emod (b - m + 1) t
    have e : (b - m + 1) % t - a - 1 = (b - a - m) + t * (-((b - m + 1) / t)) := by rw [Int.mul_neg]; omega
    rw [e, Int.add_mul_emod_self_left]
  have e2 : (b - a - m) % t = ((b - a) % t - m) % t := by
    have := Int.mul_ediv_add_emod (b - a) t
    have e : b - a - m = ((b - a) % t - m) + t * ((b - a) / t) := by omega
    rw [e, Int.add_mul_emod_self_left]
  rw [e1, e2, Int.emod_eq_of_lt (by omega) (by omega)]

theorem s_l05Apart (t a b m : Int) (ht : 0 < t ∧ t ≤ 4800000) (ha : 0 ≤ a ∧ a ≤ 4800000) (hb : 0 ≤ b ∧ b ≤ 4800000) (w : World) : Calls Try.prog 94 #[.int .i64 t, .int .i64 a, .int .i64 b, .int .i64 m] w fun en w' => en = .returned (.bool (apartB t a b m)) ∧ w = w' := by
  have h1 := Int.emod_nonneg (b - a) (show t ≠ 0 by omega)
  have h2 := Int.emod_lt_of_pos (b - a) ht.1
  rcases ilt ((b - a) % t) m with c1 | c1
  · have hr : apartB t a b m = false := by unfold apartB; rw [decide_eq_false (by omega)]; rfl
    rw [hr]; clear hr
    go_enter Try.func94, Try.ntmps94
    go_wp2_with (go_at_call 86; refine (s_l05Mod _ _ (by omega) (by omega) _).mono ?_; rintro e w' ⟨rfl, rfl⟩)
    go_ret
    exact ⟨rfl, rfl⟩
  · rcases ilt (t - (b - a) % t) m with c2 | c2
    · have hr : apartB t a b m = false := by unfold apartB; rw [decide_eq_false (p := m ≤ t - (b - a) % t) (by omega), Bool.and_false]
      rw [hr]; clear hr
      go_enter Try.func94, Try.ntmps94
      go_wp2_with (go_at_call 86; refine (s_l05Mod _ _ (by omega) (by omega) _).mono ?_; rintro e w' ⟨rfl, rfl⟩)
      go_ret
      exact ⟨ret_bool (decide_eq_false (by omega)), rfl⟩
    · have hr : apartB t a b m = true := by unfold apartB; rw [decide_eq_true c1, decide_eq_true c2]; rfl
      rw [hr]; clear hr
      go_enter Try.func94, Try.ntmps94
      go_wp2_with (go_at_call 86; refine (s_l05Mod _ _ (by omega) (by omega) _).mono ?_; rintro e w' ⟨rfl, rfl⟩)
      go_ret
      exact ⟨rfl, rfl⟩

set_option maxRecDepth 100000 in
theorem i_areApart (p : Option Addr) (n cap : Nat) (zs : List Seg) (a b m : Int) (ha : 0 ≤ a ∧ a ≤ 4800000) (hb : 0 ≤ b ∧ b ≤ 4800000) (hm : 1 ≤ m) (w : World) (hin : Segs w p n zs) (hL : LayOk zs) :
    Calls Try.prog 93 #[.agg #[.slice p n cap], .int .i64 a, .int .i64 b, .int .i64 m] w fun en w' => en = .returned (.bool (apartB (totN zs) a b m)) ∧ Below w.heap.size w w' := by
  obtain ⟨-, t1, t2⟩ := lay_bd hL
  have HIN' : Hid (Segs (w.alloc (Obj.cells #[.slice p n cap] 26)) p n zs) := (hin.alloc _); have h0 := Own.start (w.alloc (Obj.cells #[.slice p n cap] 26)); clear hin
  have HL := Lib.hid hL
  rw [← apart_eq (by omega) hm]
  clear hL
  rcases ilt ((a - b) % totN zs) m with c1 | c1
  · have hr : apartI (totN zs) a b m = false := by unfold apartI; rw [decide_eq_false (by omega)]; rfl
    rw [hr]; clear hr
    go_enter Try.func93, Try.ntmps93
    go_wp2_with first | (go_at_call 76; refine (i_size p n cap zs _ ?_ HL.out).mono ?_; (focus (exact HIN'.out.own (by first | assumption | exact Own.alloc (by assumption) _ | exact Own.drew (by assumption) | exact Own.drew (Own.alloc (by assumption) _)))); rintro e w' ⟨rfl, hb⟩; obtain ⟨hc0, hf0, hl0⟩ := below_box (k := w.heap.size) hb (by first | omega | (simp; done) | (simp; omega)); replace hb := Own.join (by first | assumption | exact Own.alloc (by assumption) _ | exact Own.drew (by assumption) | exact Own.drew (Own.alloc (by assumption) _) | exact Own.alloc (Own.alloc (by assumption) _) _ | exact Own.alloc (Own.alloc (Own.alloc (by assumption) _) _) _ | exact Own.drewN (by assumption) _ | exact Own.drew (Own.start _) | exact Own.drewN (Own.start _) _ | exact Own.start _) hb) | (go_at_call 79; refine (i_modulo _ _ (by omega) (by omega) _).mono ?_; rintro e w' ⟨rfl, rfl⟩)
    go_ret
    exact ⟨rfl, by repeat (first | exact Below.refl _ _ | refine balloc ?_ _ | refine Below.drew ?_ | refine bdrewN ?_ _ | refine bto ?_ (Own.below (by assumption)) | refine bset ?_ (by first | (simp; done) | (simp; omega) | exact Own.le_w (by assumption) (by first | (simp; done) | (simp; omega))) _)⟩
  · rcases ilt ((b - a) % totN zs) m with c2 | c2
    · have hr : apartI (totN zs) a b m = false := by unfold apartI; rw [decide_eq_false (p := m ≤ (b - a) % totN zs) (by omega), Bool.and_false]
      rw [hr]; clear hr
      go_enter Try.func93, Try.ntmps93
      go_wp2_with first | (go_at_call 76; refine (i_size p n cap zs _ ?_ HL.out).mono ?_; (focus (exact HIN'.out.own (by first | assumption | exact Own.alloc (by assumption) _ | exact Own.drew (by assumption) | exact Own.drew (Own.alloc (by assumption) _)))); rintro e w' ⟨rfl, hb⟩; obtain ⟨hc0, hf0, hl0⟩ := below_box (k := w.heap.size) hb (by first | omega | (simp; done) | (simp; omega)); replace hb := Own.join (by first | assumption | exact Own.alloc (by assumption) _ | exact Own.drew (by assumption) | exact Own.drew (Own.alloc (by assumption) _) | exact Own.alloc (Own.alloc (by assumption) _) _ | exact Own.alloc (Own.alloc (Own.alloc (by assumption) _) _) _ | exact Own.drewN (by assumption) _ | exact Own.drew (Own.start _) | exact Own.drewN (Own.start _) _ | exact Own.start _) hb) | (go_at_call 79; refine (i_modulo _ _ (by omega) (by omega) _).mono ?_; rintro e w' ⟨rfl, rfl⟩)
      go_ret
      exact ⟨ret_bool (decide_eq_false (by omega)), by repeat (first | exact Below.refl _ _ | refine balloc ?_ _ | refine Below.drew ?_ | refine bdrewN ?_ _ | refine bto ?_ (Own.below (by assumption)) | refine bset ?_ (by first | (simp; done) | (simp; omega) | exact Own.le_w (by assumption) (by first | (simp; done) | (simp; omega))) _)⟩
    · have hr : apartI (totN zs) a b m = true := by unfold apartI; rw [decide_eq_true c1, decide_eq_true c2]; rfl
      rw [hr]; clear hr
      go_enter Try.func93, Try.ntmps93
      go_wp2_with first | (go_at_call 76; refine (i_size p n cap zs _ ?_ HL.out).mono ?_; (focus (exact HIN'.out.own (by first | assumption | exact Own.alloc (by assumption) _ | exact Own.drew (by assumption) | exact Own.drew (Own.alloc (by assumption) _)))); rintro e w' ⟨rfl, hb⟩; obtain ⟨hc0, hf0, hl0⟩ := below_box (k := w.heap.size) hb (by first | omega | (simp; done) | (simp; omega)); replace hb := Own.join (by first | assumption | exact Own.alloc (by assumption) _ | exact Own.drew (by assumption) | exact Own.drew (Own.alloc (by assumption) _) | exact Own.alloc (Own.alloc (by assumption) _) _ | exact Own.alloc (Own.alloc (Own.alloc (by assumption) _) _) _ | exact Own.drewN (by assumption) _ | exact Own.drew (Own.start _) | exact Own.drewN (Own.start _) _ | exact Own.start _) hb) | (go_at_call 79; refine (i_modulo _ _ (by omega) (by omega) _).mono ?_; rintro e w' ⟨rfl, rfl⟩)
      go_ret
      exact ⟨rfl, by repeat (first | exact Below.refl _ _ | refine balloc ?_ _ | refine Below.drew ?_ | refine bdrewN ?_ _ | refine bto ?_ (Own.below (by assumption)) | refine bset ?_ (by first | (simp; done) | (simp; omega) | exact Own.le_w (by assumption) (by first | (simp; done) | (simp; omega))) _)⟩

end Go.Proofs.Ytgkfnggnhphboaa
