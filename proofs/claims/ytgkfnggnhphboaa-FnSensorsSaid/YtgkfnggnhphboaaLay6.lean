/- Contracts and lemmas for the proofs of this seat: Lay6. -/
import Derived.Test.YtgkfnggnhphboaaBase
import Derived.Test.YtgkfnggnhphboaaNum
import Derived.Test.YtgkfnggnhphboaaIv
import Derived.Test.YtgkfnggnhphboaaIv2
import Derived.Test.YtgkfnggnhphboaaDiv
import Derived.Test.YtgkfnggnhphboaaRoot
import Derived.Test.YtgkfnggnhphboaaEn
import Derived.Test.YtgkfnggnhphboaaSeg
import Derived.Test.YtgkfnggnhphboaaList
import Derived.Test.YtgkfnggnhphboaaLay
import Derived.Test.YtgkfnggnhphboaaLay2
import Derived.Test.YtgkfnggnhphboaaLay3
import Derived.Test.YtgkfnggnhphboaaLay4
import Derived.Test.YtgkfnggnhphboaaLay5
import Derived.Lib.Hide
import Derived.BigQuiet
import Derived.Deep.QuietTactic
import Derived.Deep.OwnRows
import Derived.Deep.LoopGhost
import Derived.Deep.RegionHeld3
import Derived.Deep.DeepCutAuto
import Derived.StillTailTactics
import Derived.Deep.AppendLies
import Derived.Deep.DrawnRows
import Derived.Outline
namespace Go.Proofs.Ytgkfnggnhphboaa
open Go.RowKit Go.Deep
set_option maxHeartbeats 2000000
set_option linter.unusedVariables false
set_option linter.unusedSimpArgs false

attribute [local go_sem] lt_2 lt_3 lt_4 lt_5 lt_6
def trackR (zs : List Seg) : Int × Int := if layOk zs = true then (totN zs, 0) else (0, 1)
def moveR (zs : List Seg) (x y : Int) : Int × Int := if layOk zs = true then (if inB x 0 (totN zs - 1) = true ∧ inB y 0 (totN zs) = true then ((x + y) % totN zs, 0) else (0, 2)) else (0, 1)
def rearR (zs : List Seg) (x y : Int) : Int × Int := if layOk zs = true then (if inB x 0 (totN zs - 1) = true ∧ inB y 1 (min 40000 (totN zs)) = true then ((x - y + 1) % totN zs, 0) else (0, 2)) else (0, 1)

set_option maxRecDepth 100000 in
theorem i_TrackLength (p : Option Addr) (n cap : Nat) (zs : List Seg) (w : World) (hin : Segs w p n zs) (hn : n ≤ 1048576) : Calls Try.prog 20 #[.agg #[.slice p n cap]] w fun en w' => en = .returned (p2 (trackR zs)) ∧ Below w.heap.size w w' := by
  have HIN' : Hid (Segs (w.alloc (Obj.cells #[.slice p n cap] 26)) p n zs) := (hin.alloc _); have h0 := Own.start (w.alloc (Obj.cells #[.slice p n cap] 26)); clear hin
  rcases Bool.eq_false_or_eq_true (layOk zs) with hl | hl
  · have HL := Lib.hid (layOk_iff.1 hl)
    have hr : trackR zs = (totN zs, 0) := by simp [trackR, hl]
    rw [hr]; clear hr
    go_enter Try.func20, Try.ntmps20
    go_wp2_with first | (go_at_call 58; refine (i_IsLayout p n cap zs _ ?_ hn).mono ?_; (focus (exact HIN'.out.own (by first | assumption | exact Own.alloc (by assumption) _ | exact Own.drew (by assumption) | exact Own.drew (Own.alloc (by assumption) _)))); rintro e w' ⟨rfl, hb⟩; obtain ⟨hc0, hf0, hl0⟩ := below_box (k := w.heap.size) hb (by first | omega | (simp; done) | (simp; omega)); replace hb := Own.join (by first | assumption | exact Own.alloc (by assumption) _ | exact Own.drew (by assumption) | exact Own.drew (Own.alloc (by assumption) _) | exact Own.alloc (Own.alloc (by assumption) _) _ | exact Own.alloc (Own.alloc (Own.alloc (by assumption) _) _) _ | exact Own.drewN (by assumption) _ | exact Own.drew (Own.start _) | exact Own.drewN (Own.start _) _ | exact Own.start _) hb) | (go_at_call 76; refine (i_size p n cap zs _ ?_ HL.out).mono ?_; (focus (exact HIN'.out.own (by first | assumption | exact Own.alloc (by assumption) _ | exact Own.drew (by assumption) | exact Own.drew (Own.alloc (by assumption) _)))); rintro e w' ⟨rfl, hb⟩; obtain ⟨hc0, hf0, hl0⟩ := below_box (k := w.heap.size) hb (by first | omega | (simp; done) | (simp; omega)); replace hb := Own.join (by first | assumption | exact Own.alloc (by assumption) _ | exact Own.drew (by assumption) | exact Own.drew (Own.alloc (by assumption) _) | exact Own.alloc (Own.alloc (by assumption) _) _ | exact Own.alloc (Own.alloc (Own.alloc (by assumption) _) _) _ | exact Own.drewN (by assumption) _ | exact Own.drew (Own.start _) | exact Own.drewN (Own.start _) _ | exact Own.start _) hb)
    go_ret2
    exact ⟨rfl, by repeat (first | exact Below.refl _ _ | refine balloc ?_ _ | refine Below.drew ?_ | refine bdrewN ?_ _ | refine bto ?_ (Own.below (by assumption)) | refine bset ?_ (by first | (simp; done) | (simp; omega) | exact Own.le_w (by assumption) (by first | (simp; done) | (simp; omega))) _)⟩
  · have hr : trackR zs = (0, 1) := by simp [trackR, hl]
    rw [hr]; clear hr
    go_enter Try.func20, Try.ntmps20
    go_wp2_with (go_at_call 58; refine (i_IsLayout p n cap zs _ ?_ hn).mono ?_; (focus (exact HIN'.out.own (by first | assumption | exact Own.alloc (by assumption) _ | exact Own.drew (by assumption) | exact Own.drew (Own.alloc (by assumption) _)))); rintro e w' ⟨rfl, hb⟩; obtain ⟨hc0, hf0, hl0⟩ := below_box (k := w.heap.size) hb (by first | omega | (simp; done) | (simp; omega)); replace hb := Own.join (by first | assumption | exact Own.alloc (by assumption) _ | exact Own.drew (by assumption) | exact Own.drew (Own.alloc (by assumption) _) | exact Own.alloc (Own.alloc (by assumption) _) _ | exact Own.alloc (Own.alloc (Own.alloc (by assumption) _) _) _ | exact Own.drewN (by assumption) _ | exact Own.drew (Own.start _) | exact Own.drewN (Own.start _) _ | exact Own.start _) hb)
    go_ret2
    exact ⟨rfl, by repeat (first | exact Below.refl _ _ | refine balloc ?_ _ | refine Below.drew ?_ | refine bdrewN ?_ _ | refine bto ?_ (Own.below (by assumption)) | refine bset ?_ (by first | (simp; done) | (simp; omega) | exact Own.le_w (by assumption) (by first | (simp; done) | (simp; omega))) _)⟩

theorem code05_ok {zs : List Seg} {x y lo hi : Int} (hl : layOk zs = true) (h1 : inB x 0 (totN zs - 1) = true) (h2 : inB y lo (min hi (totN zs)) = true) : code05 zs x y lo hi = 0 := by simp [code05, hl, h1, h2]
theorem code05_bad1 {zs : List Seg} {x y lo hi : Int} (hl : layOk zs = true) (h1 : inB x 0 (totN zs - 1) = false) : code05 zs x y lo hi = 2 := by simp [code05, hl, h1]
theorem code05_bad2 {zs : List Seg} {x y lo hi : Int} (hl : layOk zs = true) (h2 : inB y lo (min hi (totN zs)) = false) : code05 zs x y lo hi = 2 := by simp [code05, hl, h2]
theorem code05_no {zs : List Seg} {x y lo hi : Int} (hl : layOk zs = false) : code05 zs x y lo hi = 1 := by simp [code05, hl]
set_option maxRecDepth 100000 in
theorem s_MoveFront (p : Option Addr) (n cap : Nat) (zs : List Seg) (x y : Int) (w : World) (hin : Segs w p n zs) : Calls Try.prog 23 #[.agg #[.slice p n cap], .int .i64 x, .int .i64 y] w fun en w' => en = .returned (p2 (moveR zs x y)) ∧ Below w.heap.size w w' := by
  have HIN' : Hid (Segs (w.alloc (Obj.cells #[.slice p n cap] 26)) p n zs) := (hin.alloc _); have h0 := Own.start (w.alloc (Obj.cells #[.slice p n cap] 26)); clear hin
  have c0 := fun (W : World) (h : Segs W p n zs) => s_l05Code p n cap zs x y 0 1000000000000 W h
  rcases Bool.eq_false_or_eq_true (layOk zs) with hl | hl
  · have HL := Lib.hid (layOk_iff.1 hl)
    obtain ⟨-, t1, t2⟩ := lay_bd HL.out
    have hmin : min 1000000000000 (totN zs) = totN zs := by rw [Int.min_def]; split <;> omega
    rcases Bool.eq_false_or_eq_true (inB x 0 (totN zs - 1)) with h1 | h1
    · rcases Bool.eq_false_or_eq_true (inB y 0 (totN zs)) with h2 | h2
      · have hr : moveR zs x y = ((x + y) % totN zs, 0) := by simp [moveR, hl, h1, h2]
        rw [code05_ok hl h1 (by rw [hmin]; exact h2)] at c0
        have C0 := Lib.hid c0
        have b1 := inB_iff.1 h1
        have b2 := inB_iff.1 h2
        rw [hr]; clear hr c0 hmin hl h1 h2
        have hz : (totN zs == 0) = false := by simp; omega
        go_enter Try.func23, Try.ntmps23
        go_wp2_with first | (go_at_call 80; refine (C0.out _ ?_).mono ?_; (focus (exact HIN'.out.own (by first | assumption | exact Own.alloc (by assumption) _ | exact Own.drew (by assumption) | exact Own.drew (Own.alloc (by assumption) _)))); rintro e w' ⟨rfl, hb⟩; obtain ⟨hc0, hf0, hl0⟩ := below_box (k := w.heap.size) hb (by first | omega | (simp; done) | (simp; omega)); replace hb := Own.join (by first | assumption | exact Own.alloc (by assumption) _ | exact Own.drew (by assumption) | exact Own.drew (Own.alloc (by assumption) _) | exact Own.alloc (Own.alloc (by assumption) _) _ | exact Own.alloc (Own.alloc (Own.alloc (by assumption) _) _) _ | exact Own.drewN (by assumption) _ | exact Own.drew (Own.start _) | exact Own.drewN (Own.start _) _ | exact Own.start _) hb) | (go_at_call 81; refine (s_l03Total p n cap zs _ ?_ HL.out).mono ?_; (focus (exact HIN'.out.own (by first | assumption | exact Own.alloc (by assumption) _ | exact Own.drew (by assumption) | exact Own.drew (Own.alloc (by assumption) _)))); rintro e w' ⟨rfl, hb⟩; obtain ⟨hc0, hf0, hl0⟩ := below_box (k := w.heap.size) hb (by first | omega | (simp; done) | (simp; omega)); replace hb := Own.join (by first | assumption | exact Own.alloc (by assumption) _ | exact Own.drew (by assumption) | exact Own.drew (Own.alloc (by assumption) _) | exact Own.alloc (Own.alloc (by assumption) _) _ | exact Own.alloc (Own.alloc (Own.alloc (by assumption) _) _) _ | exact Own.drewN (by assumption) _ | exact Own.drew (Own.start _) | exact Own.drewN (Own.start _) _ | exact Own.start _) hb)
        go_ret2
        exact ⟨rfl, by repeat (first | exact Below.refl _ _ | refine balloc ?_ _ | refine Below.drew ?_ | refine bdrewN ?_ _ | refine bto ?_ (Own.below (by assumption)) | refine bset ?_ (by first | (simp; done) | (simp; omega) | exact Own.le_w (by assumption) (by first | (simp; done) | (simp; omega))) _)⟩
      · have hr : moveR zs x y = (0, 2) := by simp [moveR, hl, h2]
        rw [code05_bad2 hl (by rw [hmin]; exact h2)] at c0
        have C0 := Lib.hid c0
        rw [hr]; clear hr c0 hmin hl h1 h2
        go_enter Try.func23, Try.ntmps23
        go_wp2_with (go_at_call 80; refine (C0.out _ ?_).mono ?_; (focus (exact HIN'.out.own (by first | assumption | exact Own.alloc (by assumption) _ | exact Own.drew (by assumption) | exact Own.drew (Own.alloc (by assumption) _)))); rintro e w' ⟨rfl, hb⟩; obtain ⟨hc0, hf0, hl0⟩ := below_box (k := w.heap.size) hb (by first | omega | (simp; done) | (simp; omega)); replace hb := Own.join (by first | assumption | exact Own.alloc (by assumption) _ | exact Own.drew (by assumption) | exact Own.drew (Own.alloc (by assumption) _) | exact Own.alloc (Own.alloc (by assumption) _) _ | exact Own.alloc (Own.alloc (Own.alloc (by assumption) _) _) _ | exact Own.drewN (by assumption) _ | exact Own.drew (Own.start _) | exact Own.drewN (Own.start _) _ | exact Own.start _) hb)
        go_ret2
        exact ⟨rfl, by repeat (first | exact Below.refl _ _ | refine balloc ?_ _ | refine Below.drew ?_ | refine bdrewN ?_ _ | refine bto ?_ (Own.below (by assumption)) | refine bset ?_ (by first | (simp; done) | (simp; omega) | exact Own.le_w (by assumption) (by first | (simp; done) | (simp; omega))) _)⟩
    · have hr : moveR zs x y = (0, 2) := by simp [moveR, hl, h1]
      rw [code05_bad1 hl h1] at c0
      have C0 := Lib.hid c0
      rw [hr]; clear hr c0 hmin hl h1
      go_enter Try.func23, Try.ntmps23
      go_wp2_with (go_at_call 80; refine (C0.out _ ?_).mono ?_; (focus (exact HIN'.out.own (by first | assumption | exact Own.alloc (by assumption) _ | exact Own.drew (by assumption) | exact Own.drew (Own.alloc (by assumption) _)))); rintro e w' ⟨rfl, hb⟩; obtain ⟨hc0, hf0, hl0⟩ := below_box (k := w.heap.size) hb (by first | omega | (simp; done) | (simp; omega)); replace hb := Own.join (by first | assumption | exact Own.alloc (by assumption) _ | exact Own.drew (by assumption) | exact Own.drew (Own.alloc (by assumption) _) | exact Own.alloc (Own.alloc (by assumption) _) _ | exact Own.alloc (Own.alloc (Own.alloc (by assumption) _) _) _ | exact Own.drewN (by assumption) _ | exact Own.drew (Own.start _) | exact Own.drewN (Own.start _) _ | exact Own.start _) hb)
      go_ret2
      exact ⟨rfl, by repeat (first | exact Below.refl _ _ | refine balloc ?_ _ | refine Below.drew ?_ | refine bdrewN ?_ _ | refine bto ?_ (Own.below (by assumption)) | refine bset ?_ (by first | (simp; done) | (simp; omega) | exact Own.le_w (by assumption) (by first | (simp; done) | (simp; omega))) _)⟩
  · have hr : moveR zs x y = (0, 1) := by simp [moveR, hl]
    rw [code05_no hl] at c0
    have C0 := Lib.hid c0
    rw [hr]; clear hr c0 hl
    go_enter Try.func23, Try.ntmps23
    go_wp2_with (go_at_call 80; refine (C0.out _ ?_).mono ?_; (focus (exact HIN'.out.own (by first | assumption | exact Own.alloc (by assumption) _ | exact Own.drew (by assumption) | exact Own.drew (Own.alloc (by assumption) _)))); rintro e w' ⟨rfl, hb⟩; obtain ⟨hc0, hf0, hl0⟩ := below_box (k := w.heap.size) hb (by first | omega | (simp; done) | (simp; omega)); replace hb := Own.join (by first | assumption | exact Own.alloc (by assumption) _ | exact Own.drew (by assumption) | exact Own.drew (Own.alloc (by assumption) _) | exact Own.alloc (Own.alloc (by assumption) _) _ | exact Own.alloc (Own.alloc (Own.alloc (by assumption) _) _) _ | exact Own.drewN (by assumption) _ | exact Own.drew (Own.start _) | exact Own.drewN (Own.start _) _ | exact Own.start _) hb)
    go_ret2
    exact ⟨rfl, by repeat (first | exact Below.refl _ _ | refine balloc ?_ _ | refine Below.drew ?_ | refine bdrewN ?_ _ | refine bto ?_ (Own.below (by assumption)) | refine bset ?_ (by first | (simp; done) | (simp; omega) | exact Own.le_w (by assumption) (by first | (simp; done) | (simp; omega))) _)⟩

set_option maxRecDepth 100000 in
theorem i_MoveFront (p : Option Addr) (n cap : Nat) (zs : List Seg) (x y : Int) (w : World) (hin : Segs w p n zs) (hn : n ≤ 1048576) : Calls Try.prog 22 #[.agg #[.slice p n cap], .int .i64 x, .int .i64 y] w fun en w' => en = .returned (p2 (moveR zs x y)) ∧ Below w.heap.size w w' := by
  have HIN' : Hid (Segs (w.alloc (Obj.cells #[.slice p n cap] 26)) p n zs) := (hin.alloc _); have h0 := Own.start (w.alloc (Obj.cells #[.slice p n cap] 26)); clear hin
  rcases Bool.eq_false_or_eq_true (layOk zs) with hl | hl
  · have HL := Lib.hid (layOk_iff.1 hl)
    obtain ⟨-, t1, t2⟩ := lay_bd HL.out
    have c0 := fun (W : World) (h : Segs W p n zs) => i_isPosition p n cap zs x W h HL.out
    rcases Bool.eq_false_or_eq_true (inB x 0 (totN zs - 1)) with h1 | h1
    · rw [show isPos zs x = true from h1] at c0
      have C0 := Lib.hid c0
      have b1 := inB_iff.1 h1
      rcases Bool.eq_false_or_eq_true (inB y 0 (totN zs)) with h2 | h2
      · have hr : moveR zs x y = ((x + y) % totN zs, 0) := by simp [moveR, hl, h1, h2]
        have b2 := inB_iff.1 h2
        rw [hr]; clear hr h1 c0
        go_enter Try.func22, Try.ntmps22
        go_wp2_with first | (go_at_call 58; refine (i_IsLayout p n cap zs _ ?_ hn).mono ?_; (focus (exact HIN'.out.own (by first | assumption | exact Own.alloc (by assumption) _ | exact Own.drew (by assumption) | exact Own.drew (Own.alloc (by assumption) _)))); rintro e w' ⟨rfl, hb⟩; obtain ⟨hc0, hf0, hl0⟩ := below_box (k := w.heap.size) hb (by first | omega | (simp; done) | (simp; omega)); replace hb := Own.join (by first | assumption | exact Own.alloc (by assumption) _ | exact Own.drew (by assumption) | exact Own.drew (Own.alloc (by assumption) _) | exact Own.alloc (Own.alloc (by assumption) _) _ | exact Own.alloc (Own.alloc (Own.alloc (by assumption) _) _) _ | exact Own.drewN (by assumption) _ | exact Own.drew (Own.start _) | exact Own.drewN (Own.start _) _ | exact Own.start _) hb) | (go_at_call 71; refine (C0.out _ ?_).mono ?_; (focus (exact HIN'.out.own (by first | assumption | exact Own.alloc (by assumption) _ | exact Own.drew (by assumption) | exact Own.drew (Own.alloc (by assumption) _)))); rintro e w' ⟨rfl, hb⟩; obtain ⟨hc0, hf0, hl0⟩ := below_box (k := w.heap.size) hb (by first | omega | (simp; done) | (simp; omega)); replace hb := Own.join (by first | assumption | exact Own.alloc (by assumption) _ | exact Own.drew (by assumption) | exact Own.drew (Own.alloc (by assumption) _) | exact Own.alloc (Own.alloc (by assumption) _) _ | exact Own.alloc (Own.alloc (Own.alloc (by assumption) _) _) _ | exact Own.drewN (by assumption) _ | exact Own.drew (Own.start _) | exact Own.drewN (Own.start _) _ | exact Own.start _) hb) | (go_at_call 76; refine (i_size p n cap zs _ ?_ HL.out).mono ?_; (focus (exact HIN'.out.own (by first | assumption | exact Own.alloc (by assumption) _ | exact Own.drew (by assumption) | exact Own.drew (Own.alloc (by assumption) _)))); rintro e w' ⟨rfl, hb⟩; obtain ⟨hc0, hf0, hl0⟩ := below_box (k := w.heap.size) hb (by first | omega | (simp; done) | (simp; omega)); replace hb := Own.join (by first | assumption | exact Own.alloc (by assumption) _ | exact Own.drew (by assumption) | exact Own.drew (Own.alloc (by assumption) _) | exact Own.alloc (Own.alloc (by assumption) _) _ | exact Own.alloc (Own.alloc (Own.alloc (by assumption) _) _) _ | exact Own.drewN (by assumption) _ | exact Own.drew (Own.start _) | exact Own.drewN (Own.start _) _ | exact Own.start _) hb) | (go_at_call 78; refine (i_within _ _ _ _).mono ?_; rintro e w' ⟨rfl, rfl⟩) | (go_at_call 79; refine (i_modulo _ _ (by omega) (by omega) _).mono ?_; rintro e w' ⟨rfl, rfl⟩)
        go_ret2
        exact ⟨rfl, by repeat (first | exact Below.refl _ _ | refine balloc ?_ _ | refine Below.drew ?_ | refine bdrewN ?_ _ | refine bto ?_ (Own.below (by assumption)) | refine bset ?_ (by first | (simp; done) | (simp; omega) | exact Own.le_w (by assumption) (by first | (simp; done) | (simp; omega))) _)⟩
      · have hr : moveR zs x y = (0, 2) := by simp [moveR, hl, h2]
        rw [hr]; clear hr h1 c0
        go_enter Try.func22, Try.ntmps22
        go_wp2_with first | (go_at_call 58; refine (i_IsLayout p n cap zs _ ?_ hn).mono ?_; (focus (exact HIN'.out.own (by first | assumption | exact Own.alloc (by assumption) _ | exact Own.drew (by assumption) | exact Own.drew (Own.alloc (by assumption) _)))); rintro e w' ⟨rfl, hb⟩; obtain ⟨hc0, hf0, hl0⟩ := below_box (k := w.heap.size) hb (by first | omega | (simp; done) | (simp; omega)); replace hb := Own.join (by first | assumption | exact Own.alloc (by assumption) _ | exact Own.drew (by assumption) | exact Own.drew (Own.alloc (by assumption) _) | exact Own.alloc (Own.alloc (by assumption) _) _ | exact Own.alloc (Own.alloc (Own.alloc (by assumption) _) _) _ | exact Own.drewN (by assumption) _ | exact Own.drew (Own.start _) | exact Own.drewN (Own.start _) _ | exact Own.start _) hb) | (go_at_call 71; refine (C0.out _ ?_).mono ?_; (focus (exact HIN'.out.own (by first | assumption | exact Own.alloc (by assumption) _ | exact Own.drew (by assumption) | exact Own.drew (Own.alloc (by assumption) _)))); rintro e w' ⟨rfl, hb⟩; obtain ⟨hc0, hf0, hl0⟩ := below_box (k := w.heap.size) hb (by first | omega | (simp; done) | (simp; omega)); replace hb := Own.join (by first | assumption | exact Own.alloc (by assumption) _ | exact Own.drew (by assumption) | exact Own.drew (Own.alloc (by assumption) _) | exact Own.alloc (Own.alloc (by assumption) _) _ | exact Own.alloc (Own.alloc (Own.alloc (by assumption) _) _) _ | exact Own.drewN (by assumption) _ | exact Own.drew (Own.start _) | exact Own.drewN (Own.start _) _ | exact Own.start _) hb) | (go_at_call 76; refine (i_size p n cap zs _ ?_ HL.out).mono ?_; (focus (exact HIN'.out.own (by first | assumption | exact Own.alloc (by assumption) _ | exact Own.drew (by assumption) | exact Own.drew (Own.alloc (by assumption) _)))); rintro e w' ⟨rfl, hb⟩; obtain ⟨hc0, hf0, hl0⟩ := below_box (k := w.heap.size) hb (by first | omega | (simp; done) | (simp; omega)); replace hb := Own.join (by first | assumption | exact Own.alloc (by assumption) _ | exact Own.drew (by assumption) | exact Own.drew (Own.alloc (by assumption) _) | exact Own.alloc (Own.alloc (by assumption) _) _ | exact Own.alloc (Own.alloc (Own.alloc (by assumption) _) _) _ | exact Own.drewN (by assumption) _ | exact Own.drew (Own.start _) | exact Own.drewN (Own.start _) _ | exact Own.start _) hb) | (go_at_call 78; refine (i_within _ _ _ _).mono ?_; rintro e w' ⟨rfl, rfl⟩)
        go_ret2
        exact ⟨rfl, by repeat (first | exact Below.refl _ _ | refine balloc ?_ _ | refine Below.drew ?_ | refine bdrewN ?_ _ | refine bto ?_ (Own.below (by assumption)) | refine bset ?_ (by first | (simp; done) | (simp; omega) | exact Own.le_w (by assumption) (by first | (simp; done) | (simp; omega))) _)⟩
    · have hr : moveR zs x y = (0, 2) := by simp [moveR, hl, h1]
      rw [show isPos zs x = false from h1] at c0
      have C0 := Lib.hid c0
      rw [hr]; clear hr h1 c0
      go_enter Try.func22, Try.ntmps22
      go_wp2_with first | (go_at_call 58; refine (i_IsLayout p n cap zs _ ?_ hn).mono ?_; (focus (exact HIN'.out.own (by first | assumption | exact Own.alloc (by assumption) _ | exact Own.drew (by assumption) | exact Own.drew (Own.alloc (by assumption) _)))); rintro e w' ⟨rfl, hb⟩; obtain ⟨hc0, hf0, hl0⟩ := below_box (k := w.heap.size) hb (by first | omega | (simp; done) | (simp; omega)); replace hb := Own.join (by first | assumption | exact Own.alloc (by assumption) _ | exact Own.drew (by assumption) | exact Own.drew (Own.alloc (by assumption) _) | exact Own.alloc (Own.alloc (by assumption) _) _ | exact Own.alloc (Own.alloc (Own.alloc (by assumption) _) _) _ | exact Own.drewN (by assumption) _ | exact Own.drew (Own.start _) | exact Own.drewN (Own.start _) _ | exact Own.start _) hb) | (go_at_call 71; refine (C0.out _ ?_).mono ?_; (focus (exact HIN'.out.own (by first | assumption | exact Own.alloc (by assumption) _ | exact Own.drew (by assumption) | exact Own.drew (Own.alloc (by assumption) _)))); rintro e w' ⟨rfl, hb⟩; obtain ⟨hc0, hf0, hl0⟩ := below_box (k := w.heap.size) hb (by first | omega | (simp; done) | (simp; omega)); replace hb := Own.join (by first | assumption | exact Own.alloc (by assumption) _ | exact Own.drew (by assumption) | exact Own.drew (Own.alloc (by assumption) _) | exact Own.alloc (Own.alloc (by assumption) _) _ | exact Own.alloc (Own.alloc (Own.alloc (by assumption) _) _) _ | exact Own.drewN (by assumption) _ | exact Own.drew (Own.start _) | exact Own.drewN (Own.start _) _ | exact Own.start _) hb)
      go_ret2
      exact ⟨rfl, by repeat (first | exact Below.refl _ _ | refine balloc ?_ _ | refine Below.drew ?_ | refine bdrewN ?_ _ | refine bto ?_ (Own.below (by assumption)) | refine bset ?_ (by first | (simp; done) | (simp; omega) | exact Own.le_w (by assumption) (by first | (simp; done) | (simp; omega))) _)⟩
  · have hr : moveR zs x y = (0, 1) := by simp [moveR, hl]
    rw [hr]; clear hr
    go_enter Try.func22, Try.ntmps22
    go_wp2_with (go_at_call 58; refine (i_IsLayout p n cap zs _ ?_ hn).mono ?_; (focus (exact HIN'.out.own (by first | assumption | exact Own.alloc (by assumption) _ | exact Own.drew (by assumption) | exact Own.drew (Own.alloc (by assumption) _)))); rintro e w' ⟨rfl, hb⟩; obtain ⟨hc0, hf0, hl0⟩ := below_box (k := w.heap.size) hb (by first | omega | (simp; done) | (simp; omega)); replace hb := Own.join (by first | assumption | exact Own.alloc (by assumption) _ | exact Own.drew (by assumption) | exact Own.drew (Own.alloc (by assumption) _) | exact Own.alloc (Own.alloc (by assumption) _) _ | exact Own.alloc (Own.alloc (Own.alloc (by assumption) _) _) _ | exact Own.drewN (by assumption) _ | exact Own.drew (Own.start _) | exact Own.drewN (Own.start _) _ | exact Own.start _) hb)
    go_ret2
    exact ⟨rfl, by repeat (first | exact Below.refl _ _ | refine balloc ?_ _ | refine Below.drew ?_ | refine bdrewN ?_ _ | refine bto ?_ (Own.below (by assumption)) | refine bset ?_ (by first | (simp; done) | (simp; omega) | exact Own.le_w (by assumption) (by first | (simp; done) | (simp; omega))) _)⟩

set_option maxRecDepth 100000 in
theorem s_l05Train (p : Option Addr) (n cap : Nat) (zs : List Seg) (x y : Int) (w : World) (hin : Segs w p n zs) : Calls Try.prog 85 #[.agg #[.slice p n cap], .int .i64 x, .int .i64 y] w fun en w' => en = .returned (.int .i64 (code05 zs x y 1 40000)) ∧ Below w.heap.size w w' := by
  have HIN' : Hid (Segs (w.alloc (Obj.cells #[.slice p n cap] 26)) p n zs) := (hin.alloc _); have h0 := Own.start (w.alloc (Obj.cells #[.slice p n cap] 26)); clear hin
  go_enter Try.func85, Try.ntmps85
  go_wp2_with (go_at_call 80; refine (s_l05Code p n cap zs x y 1 40000 _ ?_).mono ?_; (focus (exact HIN'.out.own (by first | assumption | exact Own.alloc (by assumption) _ | exact Own.drew (by assumption) | exact Own.drew (Own.alloc (by assumption) _)))); rintro e w' ⟨rfl, hb⟩; obtain ⟨hc0, hf0, hl0⟩ := below_box (k := w.heap.size) hb (by first | omega | (simp; done) | (simp; omega)); replace hb := Own.join (by first | assumption | exact Own.alloc (by assumption) _ | exact Own.drew (by assumption) | exact Own.drew (Own.alloc (by assumption) _) | exact Own.alloc (Own.alloc (by assumption) _) _ | exact Own.alloc (Own.alloc (Own.alloc (by assumption) _) _) _ | exact Own.drewN (by assumption) _ | exact Own.drew (Own.start _) | exact Own.drewN (Own.start _) _ | exact Own.start _) hb)
  go_ret
  exact ⟨rfl, by repeat (first | exact Below.refl _ _ | refine balloc ?_ _ | refine Below.drew ?_ | refine bdrewN ?_ _ | refine bto ?_ (Own.below (by assumption)) | refine bset ?_ (by first | (simp; done) | (simp; omega) | exact Own.le_w (by assumption) (by first | (simp; done) | (simp; omega))) _)⟩
set_option maxRecDepth 100000 in
theorem s_RearOf (p : Option Addr) (n cap : Nat) (zs : List Seg) (x y : Int) (w : World) (hin : Segs w p n zs) : Calls Try.prog 26 #[.agg #[.slice p n cap], .int .i64 x, .int .i64 y] w fun en w' => en = .returned (p2 (rearR zs x y)) ∧ Below w.heap.size w w' := by
  have HIN' : Hid (Segs (w.alloc (Obj.cells #[.slice p n cap] 26)) p n zs) := (hin.alloc _); have h0 := Own.start (w.alloc (Obj.cells #[.slice p n cap] 26)); clear hin
  have c0 := fun (W : World) (h : Segs W p n zs) => s_l05Train p n cap zs x y W h
  rcases Bool.eq_false_or_eq_true (layOk zs) with hl | hl
  · have HL := Lib.hid (layOk_iff.1 hl)
    obtain ⟨-, t1, t2⟩ := lay_bd HL.out
    rcases Bool.eq_false_or_eq_true (inB x 0 (totN zs - 1)) with h1 | h1
    · rcases Bool.eq_false_or_eq_true (inB y 1 (min 40000 (totN zs))) with h2 | h2
      · have hr : rearR zs x y = ((x - y + 1) % totN zs, 0) := by simp [rearR, hl, h1, h2]
        rw [code05_ok hl h1 h2] at c0
        have C0 := Lib.hid c0
        have b1 := inB_iff.1 h1
        have b2 : 1 ≤ y ∧ y ≤ totN zs := by have := inB_iff.1 h2; omega
        rw [hr]; clear hr c0 hl h1 h2
        go_enter Try.func26, Try.ntmps26
        go_wp2_with first | (go_at_call 85; refine (C0.out _ ?_).mono ?_; (focus (exact HIN'.out.own (by first | assumption | exact Own.alloc (by assumption) _ | exact Own.drew (by assumption) | exact Own.drew (Own.alloc (by assumption) _)))); rintro e w' ⟨rfl, hb⟩; obtain ⟨hc0, hf0, hl0⟩ := below_box (k := w.heap.size) hb (by first | omega | (simp; done) | (simp; omega)); replace hb := Own.join (by first | assumption | exact Own.alloc (by assumption) _ | exact Own.drew (by assumption) | exact Own.drew (Own.alloc (by assumption) _) | exact Own.alloc (Own.alloc (by assumption) _) _ | exact Own.alloc (Own.alloc (Own.alloc (by assumption) _) _) _ | exact Own.drewN (by assumption) _ | exact Own.drew (Own.start _) | exact Own.drewN (Own.start _) _ | exact Own.start _) hb) | (go_at_call 81; refine (s_l03Total p n cap zs _ ?_ HL.out).mono ?_; (focus (exact HIN'.out.own (by first | assumption | exact Own.alloc (by assumption) _ | exact Own.drew (by assumption) | exact Own.drew (Own.alloc (by assumption) _)))); rintro e w' ⟨rfl, hb⟩; obtain ⟨hc0, hf0, hl0⟩ := below_box (k := w.heap.size) hb (by first | omega | (simp; done) | (simp; omega)); replace hb := Own.join (by first | assumption | exact Own.alloc (by assumption) _ | exact Own.drew (by assumption) | exact Own.drew (Own.alloc (by assumption) _) | exact Own.alloc (Own.alloc (by assumption) _) _ | exact Own.alloc (Own.alloc (Own.alloc (by assumption) _) _) _ | exact Own.drewN (by assumption) _ | exact Own.drew (Own.start _) | exact Own.drewN (Own.start _) _ | exact Own.start _) hb) | (go_at_call 86; refine (s_l05Mod _ _ (by omega) (by omega) _).mono ?_; rintro e w' ⟨rfl, rfl⟩)
        go_ret2
        exact ⟨rfl, by repeat (first | exact Below.refl _ _ | refine balloc ?_ _ | refine Below.drew ?_ | refine bdrewN ?_ _ | refine bto ?_ (Own.below (by assumption)) | refine bset ?_ (by first | (simp; done) | (simp; omega) | exact Own.le_w (by assumption) (by first | (simp; done) | (simp; omega))) _)⟩
      · have hr : rearR zs x y = (0, 2) := by simp only [rearR, hl, h2]; simp
        rw [code05_bad2 hl h2] at c0
        have C0 := Lib.hid c0
        rw [hr]; clear hr c0 hl h1 h2
        go_enter Try.func26, Try.ntmps26
        go_wp2_with (go_at_call 85; refine (C0.out _ ?_).mono ?_; (focus (exact HIN'.out.own (by first | assumption | exact Own.alloc (by assumption) _ | exact Own.drew (by assumption) | exact Own.drew (Own.alloc (by assumption) _)))); rintro e w' ⟨rfl, hb⟩; obtain ⟨hc0, hf0, hl0⟩ := below_box (k := w.heap.size) hb (by first | omega | (simp; done) | (simp; omega)); replace hb := Own.join (by first | assumption | exact Own.alloc (by assumption) _ | exact Own.drew (by assumption) | exact Own.drew (Own.alloc (by assumption) _) | exact Own.alloc (Own.alloc (by assumption) _) _ | exact Own.alloc (Own.alloc (Own.alloc (by assumption) _) _) _ | exact Own.drewN (by assumption) _ | exact Own.drew (Own.start _) | exact Own.drewN (Own.start _) _ | exact Own.start _) hb)
        go_ret2
        exact ⟨rfl, by repeat (first | exact Below.refl _ _ | refine balloc ?_ _ | refine Below.drew ?_ | refine bdrewN ?_ _ | refine bto ?_ (Own.below (by assumption)) | refine bset ?_ (by first | (simp; done) | (simp; omega) | exact Own.le_w (by assumption) (by first | (simp; done) | (simp; omega))) _)⟩
    · have hr : rearR zs x y = (0, 2) := by simp only [rearR, hl, h1]; simp
      rw [code05_bad1 hl h1] at c0
      have C0 := Lib.hid c0
      rw [hr]; clear hr c0 hl h1
      go_enter Try.func26, Try.ntmps26
      go_wp2_with (go_at_call 85; refine (C0.out _ ?_).mono ?_; (focus (exact HIN'.out.own (by first | assumption | exact Own.alloc (by assumption) _ | exact Own.drew (by assumption) | exact Own.drew (Own.alloc (by assumption) _)))); rintro e w' ⟨rfl, hb⟩; obtain ⟨hc0, hf0, hl0⟩ := below_box (k := w.heap.size) hb (by first | omega | (simp; done) | (simp; omega)); replace hb := Own.join (by first | assumption | exact Own.alloc (by assumption) _ | exact Own.drew (by assumption) | exact Own.drew (Own.alloc (by assumption) _) | exact Own.alloc (Own.alloc (by assumption) _) _ | exact Own.alloc (Own.alloc (Own.alloc (by assumption) _) _) _ | exact Own.drewN (by assumption) _ | exact Own.drew (Own.start _) | exact Own.drewN (Own.start _) _ | exact Own.start _) hb)
      go_ret2
      exact ⟨rfl, by repeat (first | exact Below.refl _ _ | refine balloc ?_ _ | refine Below.drew ?_ | refine bdrewN ?_ _ | refine bto ?_ (Own.below (by assumption)) | refine bset ?_ (by first | (simp; done) | (simp; omega) | exact Own.le_w (by assumption) (by first | (simp; done) | (simp; omega))) _)⟩
  · have hr : rearR zs x y = (0, 1) := by simp [rearR, hl]
    rw [code05_no hl] at c0
    have C0 := Lib.hid c0
    rw [hr]; clear hr c0 hl
    go_enter Try.func26, Try.ntmps26
    go_wp2_with (go_at_call 85; refine (C0.out _ ?_).mono ?_; (focus (exact HIN'.out.own (by first | assumption | exact Own.alloc (by assumption) _ | exact Own.drew (by assumption) | exact Own.drew (Own.alloc (by assumption) _)))); rintro e w' ⟨rfl, hb⟩; obtain ⟨hc0, hf0, hl0⟩ := below_box (k := w.heap.size) hb (by first | omega | (simp; done) | (simp; omega)); replace hb := Own.join (by first | assumption | exact Own.alloc (by assumption) _ | exact Own.drew (by assumption) | exact Own.drew (Own.alloc (by assumption) _) | exact Own.alloc (Own.alloc (by assumption) _) _ | exact Own.alloc (Own.alloc (Own.alloc (by assumption) _) _) _ | exact Own.drewN (by assumption) _ | exact Own.drew (Own.start _) | exact Own.drewN (Own.start _) _ | exact Own.start _) hb)
    go_ret2
    exact ⟨rfl, by repeat (first | exact Below.refl _ _ | refine balloc ?_ _ | refine Below.drew ?_ | refine bdrewN ?_ _ | refine bto ?_ (Own.below (by assumption)) | refine bset ?_ (by first | (simp; done) | (simp; omega) | exact Own.le_w (by assumption) (by first | (simp; done) | (simp; omega))) _)⟩

end Go.Proofs.Ytgkfnggnhphboaa
