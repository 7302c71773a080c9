/- Contracts and lemmas for the proofs of this seat: Lay8. -/
import Derived.Test.YtgkfnggnhphboaaBase
import Derived.Test.YtgkfnggnhphboaaNum
import Derived.Test.YtgkfnggnhphboaaIv
import Derived.Test.YtgkfnggnhphboaaIv2
import Derived.Test.YtgkfnggnhphboaaDiv
import Derived.Test.YtgkfnggnhphboaaRoot
import Derived.Test.YtgkfnggnhphboaaEn
import Derived.Test.YtgkfnggnhphboaaSeg
import Derived.Test.YtgkfnggnhphboaaList
import Derived.Test.YtgkfnggnhphboaaLay
import Derived.Test.YtgkfnggnhphboaaLay2
import Derived.Test.YtgkfnggnhphboaaLay3
import Derived.Test.YtgkfnggnhphboaaLay4
import Derived.Test.YtgkfnggnhphboaaLay5
import Derived.Test.YtgkfnggnhphboaaLay6
import Derived.Test.YtgkfnggnhphboaaLay7
import Derived.Lib.Hide
import Derived.BigQuiet
import Derived.Deep.QuietTactic
import Derived.Deep.OwnRows
import Derived.Deep.LoopGhost
import Derived.Deep.RegionHeld3
import Derived.Deep.DeepCutAuto
import Derived.StillTailTactics
import Derived.Deep.AppendLies
import Derived.Deep.DrawnRows
import Derived.Outline
namespace Go.Proofs.Ytgkfnggnhphboaa
open Go.RowKit Go.Deep
set_option maxHeartbeats 2000000
set_option linter.unusedVariables false
set_option linter.unusedSimpArgs false

attribute [local go_sem] lt_2 lt_3 lt_4 lt_5 lt_6
def gapR (zs : List Seg) (x y m : Int) : Int × Int := if layOk zs = true then (if inB x 0 (totN zs - 1) = true ∧ inB y 0 (totN zs - 1) = true ∧ inB m 1 (min 40000 (totN zs)) = true then (if apartB (totN zs) x y m = true then ((y - x) % totN zs - m, 0) else (0, 5)) else (0, 2)) else (0, 1)
set_option maxRecDepth 100000 in
theorem s_GapAhead (p : Option Addr) (n cap : Nat) (zs : List Seg) (x y m : Int) (w : World) (hin : Segs w p n zs) : Calls Try.prog 37 #[.agg #[.slice p n cap], .int .i64 x, .int .i64 y, .int .i64 m] w fun en w' => en = .returned (p2 (gapR zs x y m)) ∧ Below w.heap.size w w' := by
  have HIN' : Hid (Segs (w.alloc (Obj.cells #[.slice p n cap] 26)) p n zs) := (hin.alloc _); have h0 := Own.start (w.alloc (Obj.cells #[.slice p n cap] 26)); clear hin
  have cT := Lib.hid (fun (z : Int) (W : World) (h : Segs W p n zs) => s_l05Train p n cap zs z m W h)
  rcases Bool.eq_false_or_eq_true (layOk zs) with hl | hl
  · have HL := Lib.hid (layOk_iff.1 hl)
    obtain ⟨-, t1, t2⟩ := lay_bd HL.out
    rcases Bool.eq_false_or_eq_true (inB m 1 (min 40000 (totN zs))) with h3 | h3
    · have b3 : 1 ≤ m ∧ m ≤ 40000 := by have := inB_iff.1 h3; omega
      rcases Bool.eq_false_or_eq_true (inB x 0 (totN zs - 1)) with h1 | h1
      · have e1 := code05_ok hl h1 h3
        have b1 := inB_iff.1 h1
        rcases Bool.eq_false_or_eq_true (inB y 0 (totN zs - 1)) with h2 | h2
        · have e2 := code05_ok hl h2 h3
          have b2 := inB_iff.1 h2
          have hg : gapR zs x y m = if apartB (totN zs) x y m = true then ((y - x) % totN zs - m, 0) else (0, 5) := by simp only [gapR, hl, h1, h2, h3]; simp
          rw [hg]
          have q1 := Int.emod_nonneg (y - x) (show totN zs ≠ 0 by omega)
          have q2 := Int.emod_lt_of_pos (y - x) (show 0 < totN zs by omega)
          clear h1 h2 h3 hl hg
          rcases Bool.eq_false_or_eq_true (apartB (totN zs) x y m) with h4 | h4
          · rw [if_pos h4]
            go_enter Try.func37, Try.ntmps37
            go_upto_region 1 with fail
            go_region_held3 (fun w' => w'.cell? ⟨w.heap.size, 0, none⟩ = some (.slice p n cap)) (first | (go_simp; done) | go_keep) (first | (go_at_call 85; refine (cT.out _ _ ?_).mono ?_; (focus (exact HIN'.out.own (by first | assumption | exact Own.alloc (by assumption) _ | exact Own.drew (by assumption) | exact Own.drew (Own.alloc (by assumption) _)))); rintro e w' ⟨rfl, hb⟩; obtain ⟨hc0, hf0, hl0⟩ := below_box (k := w.heap.size) hb (by first | omega | (simp; done) | (simp; omega)); replace hb := Own.join (by first | assumption | exact Own.alloc (by assumption) _ | exact Own.drew (by assumption) | exact Own.drew (Own.alloc (by assumption) _) | exact Own.alloc (Own.alloc (by assumption) _) _ | exact Own.alloc (Own.alloc (Own.alloc (by assumption) _) _) _ | exact Own.drewN (by assumption) _ | exact Own.drew (Own.start _) | exact Own.drewN (Own.start _) _ | exact Own.start _) hb))
            all_goals (go_wp2_with (first | (go_at_call 81; refine (s_l03Total p n cap zs _ ?_ HL.out).mono ?_; (focus (exact HIN'.out.own (by first | assumption | exact Own.alloc (by assumption) _ | exact Own.drew (by assumption) | exact Own.drew (Own.alloc (by assumption) _)))); rintro e w' ⟨rfl, hb⟩; obtain ⟨hc0, hf0, hl0⟩ := below_box (k := w.heap.size) hb (by first | omega | (simp; done) | (simp; omega)); replace hb := Own.join (by first | assumption | exact Own.alloc (by assumption) _ | exact Own.drew (by assumption) | exact Own.drew (Own.alloc (by assumption) _) | exact Own.alloc (Own.alloc (by assumption) _) _ | exact Own.alloc (Own.alloc (Own.alloc (by assumption) _) _) _ | exact Own.drewN (by assumption) _ | exact Own.drew (Own.start _) | exact Own.drewN (Own.start _) _ | exact Own.start _) hb) | (go_at_call 94; refine (s_l05Apart _ _ _ _ (by omega) (by omega) (by omega) _).mono ?_; rintro e w' ⟨rfl, rfl⟩) | (go_at_call 86; refine (s_l05Mod _ _ (by omega) (by omega) _).mono ?_; rintro e w' ⟨rfl, rfl⟩)); go_ret2; exact ⟨rfl, by repeat (first | exact Below.refl _ _ | refine balloc ?_ _ | refine Below.drew ?_ | refine bdrewN ?_ _ | refine bto ?_ (Own.below (by assumption)) | refine bset ?_ (by first | (simp; done) | (simp; omega) | exact Own.le_w (by assumption) (by first | (simp; done) | (simp; omega))) _)⟩)
          · rw [if_neg (by rw [h4]; simp)]
            go_enter Try.func37, Try.ntmps37
            go_upto_region 1 with fail
            go_region_held3 (fun w' => w'.cell? ⟨w.heap.size, 0, none⟩ = some (.slice p n cap)) (first | (go_simp; done) | go_keep) (first | (go_at_call 85; refine (cT.out _ _ ?_).mono ?_; (focus (exact HIN'.out.own (by first | assumption | exact Own.alloc (by assumption) _ | exact Own.drew (by assumption) | exact Own.drew (Own.alloc (by assumption) _)))); rintro e w' ⟨rfl, hb⟩; obtain ⟨hc0, hf0, hl0⟩ := below_box (k := w.heap.size) hb (by first | omega | (simp; done) | (simp; omega)); replace hb := Own.join (by first | assumption | exact Own.alloc (by assumption) _ | exact Own.drew (by assumption) | exact Own.drew (Own.alloc (by assumption) _) | exact Own.alloc (Own.alloc (by assumption) _) _ | exact Own.alloc (Own.alloc (Own.alloc (by assumption) _) _) _ | exact Own.drewN (by assumption) _ | exact Own.drew (Own.start _) | exact Own.drewN (Own.start _) _ | exact Own.start _) hb))
            all_goals (go_wp2_with (first | (go_at_call 81; refine (s_l03Total p n cap zs _ ?_ HL.out).mono ?_; (focus (exact HIN'.out.own (by first | assumption | exact Own.alloc (by assumption) _ | exact Own.drew (by assumption) | exact Own.drew (Own.alloc (by assumption) _)))); rintro e w' ⟨rfl, hb⟩; obtain ⟨hc0, hf0, hl0⟩ := below_box (k := w.heap.size) hb (by first | omega | (simp; done) | (simp; omega)); replace hb := Own.join (by first | assumption | exact Own.alloc (by assumption) _ | exact Own.drew (by assumption) | exact Own.drew (Own.alloc (by assumption) _) | exact Own.alloc (Own.alloc (by assumption) _) _ | exact Own.alloc (Own.alloc (Own.alloc (by assumption) _) _) _ | exact Own.drewN (by assumption) _ | exact Own.drew (Own.start _) | exact Own.drewN (Own.start _) _ | exact Own.start _) hb) | (go_at_call 94; refine (s_l05Apart _ _ _ _ (by omega) (by omega) (by omega) _).mono ?_; rintro e w' ⟨rfl, rfl⟩) | (go_at_call 86; refine (s_l05Mod _ _ (by omega) (by omega) _).mono ?_; rintro e w' ⟨rfl, rfl⟩)); go_ret2; exact ⟨rfl, by repeat (first | exact Below.refl _ _ | refine balloc ?_ _ | refine Below.drew ?_ | refine bdrewN ?_ _ | refine bto ?_ (Own.below (by assumption)) | refine bset ?_ (by first | (simp; done) | (simp; omega) | exact Own.le_w (by assumption) (by first | (simp; done) | (simp; omega))) _)⟩)
        · have e2 := code05_bad1 (y := m) (lo := 1) (hi := 40000) hl h2
          have hg : gapR zs x y m = (0, 2) := by simp only [gapR, hl, h2]; simp
          rw [hg]
          clear h1 h2 h3 hl hg
          go_enter Try.func37, Try.ntmps37
          go_upto_region 1 with fail
          go_region_held3 (fun w' => w'.cell? ⟨w.heap.size, 0, none⟩ = some (.slice p n cap)) (first | (go_simp; done) | go_keep) (first | (go_at_call 85; refine (cT.out _ _ ?_).mono ?_; (focus (exact HIN'.out.own (by first | assumption | exact Own.alloc (by assumption) _ | exact Own.drew (by assumption) | exact Own.drew (Own.alloc (by assumption) _)))); rintro e w' ⟨rfl, hb⟩; obtain ⟨hc0, hf0, hl0⟩ := below_box (k := w.heap.size) hb (by first | omega | (simp; done) | (simp; omega)); replace hb := Own.join (by first | assumption | exact Own.alloc (by assumption) _ | exact Own.drew (by assumption) | exact Own.drew (Own.alloc (by assumption) _) | exact Own.alloc (Own.alloc (by assumption) _) _ | exact Own.alloc (Own.alloc (Own.alloc (by assumption) _) _) _ | exact Own.drewN (by assumption) _ | exact Own.drew (Own.start _) | exact Own.drewN (Own.start _) _ | exact Own.start _) hb))
          all_goals (go_wp2_with fail; go_ret2; exact ⟨rfl, by repeat (first | exact Below.refl _ _ | refine balloc ?_ _ | refine Below.drew ?_ | refine bdrewN ?_ _ | refine bto ?_ (Own.below (by assumption)) | refine bset ?_ (by first | (simp; done) | (simp; omega) | exact Own.le_w (by assumption) (by first | (simp; done) | (simp; omega))) _)⟩)
      · have e1 := code05_bad1 (y := m) (lo := 1) (hi := 40000) hl h1
        have hg : gapR zs x y m = (0, 2) := by simp only [gapR, hl, h1]; simp
        rw [hg]
        rcases Bool.eq_false_or_eq_true (inB y 0 (totN zs - 1)) with h2 | h2
        · have e2 := code05_ok hl h2 h3
          clear h1 h2 h3 hl hg
          go_enter Try.func37, Try.ntmps37
          go_upto_region 1 with fail
          go_region_held3 (fun w' => w'.cell? ⟨w.heap.size, 0, none⟩ = some (.slice p n cap)) (first | (go_simp; done) | go_keep) (first | (go_at_call 85; refine (cT.out _ _ ?_).mono ?_; (focus (exact HIN'.out.own (by first | assumption | exact Own.alloc (by assumption) _ | exact Own.drew (by assumption) | exact Own.drew (Own.alloc (by assumption) _)))); rintro e w' ⟨rfl, hb⟩; obtain ⟨hc0, hf0, hl0⟩ := below_box (k := w.heap.size) hb (by first | omega | (simp; done) | (simp; omega)); replace hb := Own.join (by first | assumption | exact Own.alloc (by assumption) _ | exact Own.drew (by assumption) | exact Own.drew (Own.alloc (by assumption) _) | exact Own.alloc (Own.alloc (by assumption) _) _ | exact Own.alloc (Own.alloc (Own.alloc (by assumption) _) _) _ | exact Own.drewN (by assumption) _ | exact Own.drew (Own.start _) | exact Own.drewN (Own.start _) _ | exact Own.start _) hb))
          all_goals (go_wp2_with fail; go_ret2; exact ⟨rfl, by repeat (first | exact Below.refl _ _ | refine balloc ?_ _ | refine Below.drew ?_ | refine bdrewN ?_ _ | refine bto ?_ (Own.below (by assumption)) | refine bset ?_ (by first | (simp; done) | (simp; omega) | exact Own.le_w (by assumption) (by first | (simp; done) | (simp; omega))) _)⟩)
        · have e2 := code05_bad1 (y := m) (lo := 1) (hi := 40000) hl h2
          clear h1 h2 h3 hl hg
          go_enter Try.func37, Try.ntmps37
          go_upto_region 1 with fail
          go_region_held3 (fun w' => w'.cell? ⟨w.heap.size, 0, none⟩ = some (.slice p n cap)) (first | (go_simp; done) | go_keep) (first | (go_at_call 85; refine (cT.out _ _ ?_).mono ?_; (focus (exact HIN'.out.own (by first | assumption | exact Own.alloc (by assumption) _ | exact Own.drew (by assumption) | exact Own.drew (Own.alloc (by assumption) _)))); rintro e w' ⟨rfl, hb⟩; obtain ⟨hc0, hf0, hl0⟩ := below_box (k := w.heap.size) hb (by first | omega | (simp; done) | (simp; omega)); replace hb := Own.join (by first | assumption | exact Own.alloc (by assumption) _ | exact Own.drew (by assumption) | exact Own.drew (Own.alloc (by assumption) _) | exact Own.alloc (Own.alloc (by assumption) _) _ | exact Own.alloc (Own.alloc (Own.alloc (by assumption) _) _) _ | exact Own.drewN (by assumption) _ | exact Own.drew (Own.start _) | exact Own.drewN (Own.start _) _ | exact Own.start _) hb))
          all_goals (go_wp2_with fail; go_ret2; exact ⟨rfl, by repeat (first | exact Below.refl _ _ | refine balloc ?_ _ | refine Below.drew ?_ | refine bdrewN ?_ _ | refine bto ?_ (Own.below (by assumption)) | refine bset ?_ (by first | (simp; done) | (simp; omega) | exact Own.le_w (by assumption) (by first | (simp; done) | (simp; omega))) _)⟩)
    · have e1 := code05_bad2 (x := x) (lo := 1) (hi := 40000) hl h3
      have e2 := code05_bad2 (x := y) (lo := 1) (hi := 40000) hl h3
      have hg : gapR zs x y m = (0, 2) := by simp only [gapR, hl, h3]; simp
      rw [hg]
      clear h3 hl hg
      go_enter Try.func37, Try.ntmps37
      go_upto_region 1 with fail
      go_region_held3 (fun w' => w'.cell? ⟨w.heap.size, 0, none⟩ = some (.slice p n cap)) (first | (go_simp; done) | go_keep) (first | (go_at_call 85; refine (cT.out _ _ ?_).mono ?_; (focus (exact HIN'.out.own (by first | assumption | exact Own.alloc (by assumption) _ | exact Own.drew (by assumption) | exact Own.drew (Own.alloc (by assumption) _)))); rintro e w' ⟨rfl, hb⟩; obtain ⟨hc0, hf0, hl0⟩ := below_box (k := w.heap.size) hb (by first | omega | (simp; done) | (simp; omega)); replace hb := Own.join (by first | assumption | exact Own.alloc (by assumption) _ | exact Own.drew (by assumption) | exact Own.drew (Own.alloc (by assumption) _) | exact Own.alloc (Own.alloc (by assumption) _) _ | exact Own.alloc (Own.alloc (Own.alloc (by assumption) _) _) _ | exact Own.drewN (by assumption) _ | exact Own.drew (Own.start _) | exact Own.drewN (Own.start _) _ | exact Own.start _) hb))
      all_goals (go_wp2_with fail; go_ret2; exact ⟨rfl, by repeat (first | exact Below.refl _ _ | refine balloc ?_ _ | refine Below.drew ?_ | refine bdrewN ?_ _ | refine bto ?_ (Own.below (by assumption)) | refine bset ?_ (by first | (simp; done) | (simp; omega) | exact Own.le_w (by assumption) (by first | (simp; done) | (simp; omega))) _)⟩)
  · have e1 := code05_no (x := x) (y := m) (lo := 1) (hi := 40000) hl
    have e2 := code05_no (x := y) (y := m) (lo := 1) (hi := 40000) hl
    have hg : gapR zs x y m = (0, 1) := by simp only [gapR, hl]; simp
    rw [hg]
    clear hl hg
    go_enter Try.func37, Try.ntmps37
    go_upto_region 1 with fail
    go_region_held3 (fun w' => w'.cell? ⟨w.heap.size, 0, none⟩ = some (.slice p n cap)) (first | (go_simp; done) | go_keep) (first | (go_at_call 85; refine (cT.out _ _ ?_).mono ?_; (focus (exact HIN'.out.own (by first | assumption | exact Own.alloc (by assumption) _ | exact Own.drew (by assumption) | exact Own.drew (Own.alloc (by assumption) _)))); rintro e w' ⟨rfl, hb⟩; obtain ⟨hc0, hf0, hl0⟩ := below_box (k := w.heap.size) hb (by first | omega | (simp; done) | (simp; omega)); replace hb := Own.join (by first | assumption | exact Own.alloc (by assumption) _ | exact Own.drew (by assumption) | exact Own.drew (Own.alloc (by assumption) _) | exact Own.alloc (Own.alloc (by assumption) _) _ | exact Own.alloc (Own.alloc (Own.alloc (by assumption) _) _) _ | exact Own.drewN (by assumption) _ | exact Own.drew (Own.start _) | exact Own.drewN (Own.start _) _ | exact Own.start _) hb))
    all_goals (go_wp2_with fail; go_ret2; exact ⟨rfl, by repeat (first | exact Below.refl _ _ | refine balloc ?_ _ | refine Below.drew ?_ | refine bdrewN ?_ _ | refine bto ?_ (Own.below (by assumption)) | refine bset ?_ (by first | (simp; done) | (simp; omega) | exact Own.le_w (by assumption) (by first | (simp; done) | (simp; omega))) _)⟩)

set_option maxRecDepth 100000 in
theorem i_GapAhead (p : Option Addr) (n cap : Nat) (zs : List Seg) (x y m : Int) (w : World) (hin : Segs w p n zs) (hn : n ≤ 1048576) : Calls Try.prog 36 #[.agg #[.slice p n cap], .int .i64 x, .int .i64 y, .int .i64 m] w fun en w' => en = .returned (p2 (gapR zs x y m)) ∧ Below w.heap.size w w' := by
  have c0 := i_trainCode p n cap zs m (some ⟨w.heap.size + 1, 0, none⟩) 2 2 [x, y] ((w.alloc (Obj.cells #[.slice p n cap] 26)).alloc (Obj.cells #[.int .i64 x, .int .i64 y] 2)) ((hin.alloc _).alloc _) hn (ints_new2 _ _ _ _ _)
  rw [tcode2] at c0
  have HIN' : Hid (Segs ((w.alloc (Obj.cells #[.slice p n cap] 26)).alloc (Obj.cells #[.int .i64 x, .int .i64 y] 2)) p n zs) := ((hin.alloc _).alloc _); have h0 := Own.start ((w.alloc (Obj.cells #[.slice p n cap] 26)).alloc (Obj.cells #[.int .i64 x, .int .i64 y] 2)); clear hin
  rcases Bool.eq_false_or_eq_true (layOk zs) with hl | hl
  · have HL := Lib.hid (layOk_iff.1 hl)
    rw [if_pos hl] at c0
    obtain ⟨-, t1, t2⟩ := lay_bd HL.out
    by_cases h : inB x 0 (totN zs - 1) = true ∧ inB y 0 (totN zs - 1) = true ∧ inB m 1 (min 40000 (totN zs)) = true
    · rw [if_pos h] at c0
      obtain ⟨h1, h2, h3⟩ := h
      have b1 := inB_iff.1 h1
      have b2 := inB_iff.1 h2
      have b3 : 1 ≤ m ∧ m ≤ 40000 ∧ m ≤ totN zs := by have := inB_iff.1 h3; omega
      have C0 := Lib.hid c0
      have hg : gapR zs x y m = if apartB (totN zs) x y m = true then ((y - x) % totN zs - m, 0) else (0, 5) := by simp only [gapR, hl, h1, h2, h3]; simp
      rw [hg]
      have q1 := Int.emod_nonneg (y - m + 1) (show totN zs ≠ 0 by omega)
      have q2 := Int.emod_lt_of_pos (y - m + 1) (show 0 < totN zs by omega)
      clear h1 h2 h3 hl hg c0
      rcases Bool.eq_false_or_eq_true (apartB (totN zs) x y m) with h4 | h4
      · rw [if_pos h4]
        have HE := Lib.hid (gap_eq (by omega) b3.1 h4)
        have hw1 : IntKind.i64.wrap ((y - m + 1) % totN zs - x) = (y - m + 1) % totN zs - x := IntWalk.i64_in _ (by omega)
        have hw2 : IntKind.i64.wrap ((y - m + 1) % totN zs - x - 1) = (y - m + 1) % totN zs - x - 1 := IntWalk.i64_in _ (by omega)
        go_enter Try.func36, Try.ntmps36
        go_wp2_with fail
        refine C0.out.mono ?_
        rintro e w' ⟨rfl, hb⟩
        obtain ⟨hc, hf, hl⟩ := below_box (k := w.heap.size) hb (by simp; omega)
        replace hb := h0.join hb
        go_upto_region 6 with (go_at_call 93; refine (i_areApart p n cap zs x y m (by omega) (by omega) b3.1 _ ?_ HL.out).mono ?_; (focus (exact HIN'.out.own (by first | assumption | exact Own.alloc (by assumption) _ | exact Own.drew (by assumption) | exact Own.drew (Own.alloc (by assumption) _)))); rintro e w' ⟨rfl, hb⟩; obtain ⟨hc0, hf0, hl0⟩ := below_box (k := w.heap.size) hb (by first | omega | (simp; done) | (simp; omega)); replace hb := Own.join (by first | assumption | exact Own.alloc (by assumption) _ | exact Own.drew (by assumption) | exact Own.drew (Own.alloc (by assumption) _) | exact Own.alloc (Own.alloc (by assumption) _) _ | exact Own.alloc (Own.alloc (Own.alloc (by assumption) _) _) _ | exact Own.drewN (by assumption) _ | exact Own.drew (Own.start _) | exact Own.drewN (Own.start _) _ | exact Own.start _) hb)
        go_region_held3 (fun w' => w'.cell? ⟨w.heap.size, 0, none⟩ = some (.slice p n cap)) (first | (go_simp; done) | go_keep) (first | (go_at_call 84; refine (i_rear p n cap zs y m (by omega) (by omega) _ ?_ HL.out).mono ?_; (focus (exact HIN'.out.own (by first | assumption | exact Own.alloc (by assumption) _ | exact Own.drew (by assumption) | exact Own.drew (Own.alloc (by assumption) _)))); rintro e w' ⟨rfl, hb⟩; obtain ⟨hc0, hf0, hl0⟩ := below_box (k := w.heap.size) hb (by first | omega | (simp; done) | (simp; omega)); replace hb := Own.join (by first | assumption | exact Own.alloc (by assumption) _ | exact Own.drew (by assumption) | exact Own.drew (Own.alloc (by assumption) _) | exact Own.alloc (Own.alloc (by assumption) _) _ | exact Own.alloc (Own.alloc (Own.alloc (by assumption) _) _) _ | exact Own.drewN (by assumption) _ | exact Own.drew (Own.start _) | exact Own.drewN (Own.start _) _ | exact Own.start _) hb) | (go_at_call 76; refine (i_size p n cap zs _ ?_ HL.out).mono ?_; (focus (exact HIN'.out.own (by first | assumption | exact Own.alloc (by assumption) _ | exact Own.drew (by assumption) | exact Own.drew (Own.alloc (by assumption) _)))); rintro e w' ⟨rfl, hb⟩; obtain ⟨hc0, hf0, hl0⟩ := below_box (k := w.heap.size) hb (by first | omega | (simp; done) | (simp; omega)); replace hb := Own.join (by first | assumption | exact Own.alloc (by assumption) _ | exact Own.drew (by assumption) | exact Own.drew (Own.alloc (by assumption) _) | exact Own.alloc (Own.alloc (by assumption) _) _ | exact Own.alloc (Own.alloc (Own.alloc (by assumption) _) _) _ | exact Own.drewN (by assumption) _ | exact Own.drew (Own.start _) | exact Own.drewN (Own.start _) _ | exact Own.start _) hb) | (go_at_call 79; refine (i_modulo _ _ (by omega) (by omega) _).mono ?_; rintro e w' ⟨rfl, rfl⟩))
        all_goals (go_wp2; go_ret2; exact ⟨ret_int2 HE.out rfl, by repeat (first | exact Below.refl _ _ | refine balloc ?_ _ | refine Below.drew ?_ | refine bdrewN ?_ _ | refine bto ?_ (Own.below (by assumption)) | refine bset ?_ (by first | (simp; done) | (simp; omega) | exact Own.le_w (by assumption) (by first | (simp; done) | (simp; omega))) _)⟩)
      · rw [if_neg (by rw [h4]; simp)]
        go_enter Try.func36, Try.ntmps36
        go_wp2_with fail
        refine C0.out.mono ?_
        rintro e w' ⟨rfl, hb⟩
        obtain ⟨hc, hf, hl⟩ := below_box (k := w.heap.size) hb (by simp; omega)
        replace hb := h0.join hb
        go_wp2_with (go_at_call 93; refine (i_areApart p n cap zs x y m (by omega) (by omega) b3.1 _ ?_ HL.out).mono ?_; (focus (exact HIN'.out.own (by first | assumption | exact Own.alloc (by assumption) _ | exact Own.drew (by assumption) | exact Own.drew (Own.alloc (by assumption) _)))); rintro e w' ⟨rfl, hb⟩; obtain ⟨hc0, hf0, hl0⟩ := below_box (k := w.heap.size) hb (by first | omega | (simp; done) | (simp; omega)); replace hb := Own.join (by first | assumption | exact Own.alloc (by assumption) _ | exact Own.drew (by assumption) | exact Own.drew (Own.alloc (by assumption) _) | exact Own.alloc (Own.alloc (by assumption) _) _ | exact Own.alloc (Own.alloc (Own.alloc (by assumption) _) _) _ | exact Own.drewN (by assumption) _ | exact Own.drew (Own.start _) | exact Own.drewN (Own.start _) _ | exact Own.start _) hb)
        go_ret2
        exact ⟨rfl, by repeat (first | exact Below.refl _ _ | refine balloc ?_ _ | refine Below.drew ?_ | refine bdrewN ?_ _ | refine bto ?_ (Own.below (by assumption)) | refine bset ?_ (by first | (simp; done) | (simp; omega) | exact Own.le_w (by assumption) (by first | (simp; done) | (simp; omega))) _)⟩
    · rw [if_neg h] at c0
      have C0 := Lib.hid c0
      have hg : gapR zs x y m = (0, 2) := by unfold gapR; rw [if_pos hl, if_neg h]
      rw [hg]
      clear h hl hg c0
      go_enter Try.func36, Try.ntmps36
      go_wp2_with fail
      refine C0.out.mono ?_
      rintro e w' ⟨rfl, hb⟩
      replace hb := h0.join hb
      go_wp2
      go_ret2
      exact ⟨rfl, by repeat (first | exact Below.refl _ _ | refine balloc ?_ _ | refine Below.drew ?_ | refine bdrewN ?_ _ | refine bto ?_ (Own.below (by assumption)) | refine bset ?_ (by first | (simp; done) | (simp; omega) | exact Own.le_w (by assumption) (by first | (simp; done) | (simp; omega))) _)⟩
  · rw [if_neg (by rw [hl]; simp)] at c0
    have C0 := Lib.hid c0
    have hg : gapR zs x y m = (0, 1) := by unfold gapR; rw [if_neg (by rw [hl]; simp)]
    rw [hg]
    clear hl hg c0
    go_enter Try.func36, Try.ntmps36
    go_wp2_with fail
    refine C0.out.mono ?_
    rintro e w' ⟨rfl, hb⟩
    replace hb := h0.join hb
    go_wp2
    go_ret2
    exact ⟨rfl, by repeat (first | exact Below.refl _ _ | refine balloc ?_ _ | refine Below.drew ?_ | refine bdrewN ?_ _ | refine bto ?_ (Own.below (by assumption)) | refine bset ?_ (by first | (simp; done) | (simp; omega) | exact Own.le_w (by assumption) (by first | (simp; done) | (simp; omega))) _)⟩

end Go.Proofs.Ytgkfnggnhphboaa
