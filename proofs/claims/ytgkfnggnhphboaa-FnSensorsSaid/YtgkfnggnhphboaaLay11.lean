/- Contracts and lemmas for the proofs of this seat: Lay11. -/
import Derived.Test.YtgkfnggnhphboaaBase
import Derived.Test.YtgkfnggnhphboaaNum
import Derived.Test.YtgkfnggnhphboaaIv
import Derived.Test.YtgkfnggnhphboaaIv2
import Derived.Test.YtgkfnggnhphboaaDiv
import Derived.Test.YtgkfnggnhphboaaRoot
import Derived.Test.YtgkfnggnhphboaaEn
import Derived.Test.YtgkfnggnhphboaaEn2
import Derived.Test.YtgkfnggnhphboaaSeg
import Derived.Test.YtgkfnggnhphboaaList
import Derived.Test.YtgkfnggnhphboaaLay
import Derived.Test.YtgkfnggnhphboaaLay2
import Derived.Test.YtgkfnggnhphboaaLay3
import Derived.Test.YtgkfnggnhphboaaLay9
import Derived.Test.YtgkfnggnhphboaaLay10
import Derived.Lib.Hide
import Derived.BigQuiet
import Derived.Deep.QuietTactic
import Derived.Deep.OwnRows
import Derived.Deep.LoopGhost
import Derived.Deep.RegionHeld3
import Derived.Deep.DeepCutAuto
import Derived.StillTailTactics
import Derived.Deep.AppendLies
import Derived.Deep.DrawnRows
import Derived.Outline
namespace Go.Proofs.Ytgkfnggnhphboaa
open Go.RowKit Go.Deep
set_option maxHeartbeats 2000000
set_option linter.unusedVariables false
set_option linter.unusedSimpArgs false

attribute [local go_sem] lt_2 lt_3 lt_4 lt_5 lt_6 fld_lo fld_hi
def needR (zs : List Seg) (x y : Int) : Int × Int := if layOk zs = true then (if rangeB zs x y = true then (if 10000000000 < needL zs x.toNat y.toNat then (0, 3) else (needL zs x.toNat y.toNat, 0)) else (0, 2)) else (0, 1)
theorem rangeB_nat {zs : List Seg} {x y : Int} (h : rangeB zs x y = true) : ∃ f m : Nat, x = f ∧ y = m ∧ f < zs.length ∧ m ≤ 24 := by
  unfold rangeB at h
  simp only [Bool.and_eq_true, inB_iff] at h
  exact ⟨x.toNat, y.toNat, by omega, by omega, by omega, by omega⟩
set_option maxRecDepth 100000 in
theorem s_EnergyNeeded (p : Option Addr) (n cap : Nat) (zs : List Seg) (x y : Int) (w : World) (hin : Segs w p n zs) (hn : n ≤ 1048576) : Calls Try.prog 14 #[.agg #[.slice p n cap], .int .i64 x, .int .i64 y] w fun en w' => en = .returned (p2 (needR zs x y)) ∧ Below w.heap.size w w' := by
  have hz := hin.1
  have HIN' : Hid (Segs (w.alloc (Obj.cells #[.slice p n cap] 26)) p n zs) := (hin.alloc _); have h0 := Own.start (w.alloc (Obj.cells #[.slice p n cap] 26)); clear hin
  have cR := Lib.hid (fun W => s_l06Range p n cap zs x y W hz hn)
  rcases Bool.eq_false_or_eq_true (layOk zs) with hl | hl
  · have HL := Lib.hid (layOk_iff.1 hl)
    rcases Bool.eq_false_or_eq_true (rangeB zs x y) with h1 | h1
    · obtain ⟨f, m, rfl, rfl, hf, hm⟩ := rangeB_nat h1
      have b := needL_bd HL.out f m
      have hg : needR zs f m = if 10000000000 < needL zs f m then (0, 3) else (needL zs f m, 0) := by unfold needR; rw [if_pos hl, if_pos h1]; rfl
      rw [hg]
      have cN := fun W h => s_l06Needed p n cap zs f m (by omega) hm W h HL.out
      have CN := Lib.hid cN
      clear hg cN hz
      generalize needL zs f m = r at *
      rcases ilt 10000000000 r with c | c
      · rw [if_pos c]
        go_enter Try.func14, Try.ntmps14
        go_wp2_with first | (go_at_call 62; refine (s_IsLayout p n cap zs _ ?_).mono ?_; (focus (exact HIN'.out.own (by first | assumption | exact Own.alloc (by assumption) _ | exact Own.drew (by assumption) | exact Own.drew (Own.alloc (by assumption) _)))); rintro e w' ⟨rfl, hb⟩; obtain ⟨hc0, hf0, hl0⟩ := below_box (k := w.heap.size) hb (by first | omega | (simp; done) | (simp; omega)); replace hb := Own.join (by first | assumption | exact Own.alloc (by assumption) _ | exact Own.drew (by assumption) | exact Own.drew (Own.alloc (by assumption) _) | exact Own.alloc (Own.alloc (by assumption) _) _ | exact Own.alloc (Own.alloc (Own.alloc (by assumption) _) _) _ | exact Own.drewN (by assumption) _ | exact Own.drew (Own.start _) | exact Own.drewN (Own.start _) _ | exact Own.start _) hb) | (go_at_call 63; refine (cR.out _).mono ?_; rintro e w' ⟨rfl, hb⟩; obtain ⟨hc0, hf0, hl0⟩ := below_box (k := w.heap.size) hb (by first | omega | (simp; done) | (simp; omega)); replace hb := Own.join (by first | assumption | exact Own.alloc (by assumption) _ | exact Own.drew (by assumption) | exact Own.drew (Own.alloc (by assumption) _) | exact Own.alloc (Own.alloc (by assumption) _) _ | exact Own.alloc (Own.alloc (Own.alloc (by assumption) _) _) _ | exact Own.drewN (by assumption) _ | exact Own.drew (Own.start _) | exact Own.drewN (Own.start _) _ | exact Own.start _) hb) | (go_at_call 64; refine (CN.out _ ?_).mono ?_; (focus (exact HIN'.out.own (by first | assumption | exact Own.alloc (by assumption) _ | exact Own.drew (by assumption) | exact Own.drew (Own.alloc (by assumption) _)))); rintro e w' ⟨rfl, hb⟩; obtain ⟨hc0, hf0, hl0⟩ := below_box (k := w.heap.size) hb (by first | omega | (simp; done) | (simp; omega)); replace hb := Own.join (by first | assumption | exact Own.alloc (by assumption) _ | exact Own.drew (by assumption) | exact Own.drew (Own.alloc (by assumption) _) | exact Own.alloc (Own.alloc (by assumption) _) _ | exact Own.alloc (Own.alloc (Own.alloc (by assumption) _) _) _ | exact Own.drewN (by assumption) _ | exact Own.drew (Own.start _) | exact Own.drewN (Own.start _) _ | exact Own.start _) hb)
        go_ret2
        exact ⟨rfl, by repeat (first | exact Below.refl _ _ | refine balloc ?_ _ | refine Below.drew ?_ | refine bdrewN ?_ _ | refine bto ?_ (Own.below (by assumption)) | refine bset ?_ (by first | (simp; done) | (simp; omega) | exact Own.le_w (by assumption) (by first | (simp; done) | (simp; omega))) _)⟩
      · rw [if_neg (by omega)]
        go_enter Try.func14, Try.ntmps14
        go_wp2_with first | (go_at_call 62; refine (s_IsLayout p n cap zs _ ?_).mono ?_; (focus (exact HIN'.out.own (by first | assumption | exact Own.alloc (by assumption) _ | exact Own.drew (by assumption) | exact Own.drew (Own.alloc (by assumption) _)))); rintro e w' ⟨rfl, hb⟩; obtain ⟨hc0, hf0, hl0⟩ := below_box (k := w.heap.size) hb (by first | omega | (simp; done) | (simp; omega)); replace hb := Own.join (by first | assumption | exact Own.alloc (by assumption) _ | exact Own.drew (by assumption) | exact Own.drew (Own.alloc (by assumption) _) | exact Own.alloc (Own.alloc (by assumption) _) _ | exact Own.alloc (Own.alloc (Own.alloc (by assumption) _) _) _ | exact Own.drewN (by assumption) _ | exact Own.drew (Own.start _) | exact Own.drewN (Own.start _) _ | exact Own.start _) hb) | (go_at_call 63; refine (cR.out _).mono ?_; rintro e w' ⟨rfl, hb⟩; obtain ⟨hc0, hf0, hl0⟩ := below_box (k := w.heap.size) hb (by first | omega | (simp; done) | (simp; omega)); replace hb := Own.join (by first | assumption | exact Own.alloc (by assumption) _ | exact Own.drew (by assumption) | exact Own.drew (Own.alloc (by assumption) _) | exact Own.alloc (Own.alloc (by assumption) _) _ | exact Own.alloc (Own.alloc (Own.alloc (by assumption) _) _) _ | exact Own.drewN (by assumption) _ | exact Own.drew (Own.start _) | exact Own.drewN (Own.start _) _ | exact Own.start _) hb) | (go_at_call 64; refine (CN.out _ ?_).mono ?_; (focus (exact HIN'.out.own (by first | assumption | exact Own.alloc (by assumption) _ | exact Own.drew (by assumption) | exact Own.drew (Own.alloc (by assumption) _)))); rintro e w' ⟨rfl, hb⟩; obtain ⟨hc0, hf0, hl0⟩ := below_box (k := w.heap.size) hb (by first | omega | (simp; done) | (simp; omega)); replace hb := Own.join (by first | assumption | exact Own.alloc (by assumption) _ | exact Own.drew (by assumption) | exact Own.drew (Own.alloc (by assumption) _) | exact Own.alloc (Own.alloc (by assumption) _) _ | exact Own.alloc (Own.alloc (Own.alloc (by assumption) _) _) _ | exact Own.drewN (by assumption) _ | exact Own.drew (Own.start _) | exact Own.drewN (Own.start _) _ | exact Own.start _) hb)
        go_ret2
        exact ⟨rfl, by repeat (first | exact Below.refl _ _ | refine balloc ?_ _ | refine Below.drew ?_ | refine bdrewN ?_ _ | refine bto ?_ (Own.below (by assumption)) | refine bset ?_ (by first | (simp; done) | (simp; omega) | exact Own.le_w (by assumption) (by first | (simp; done) | (simp; omega))) _)⟩
    · have hg : needR zs x y = (0, 2) := by unfold needR; rw [if_pos hl, if_neg (by rw [h1]; simp)]
      rw [hg]
      clear hg hz
      go_enter Try.func14, Try.ntmps14
      go_wp2_with first | (go_at_call 62; refine (s_IsLayout p n cap zs _ ?_).mono ?_; (focus (exact HIN'.out.own (by first | assumption | exact Own.alloc (by assumption) _ | exact Own.drew (by assumption) | exact Own.drew (Own.alloc (by assumption) _)))); rintro e w' ⟨rfl, hb⟩; obtain ⟨hc0, hf0, hl0⟩ := below_box (k := w.heap.size) hb (by first | omega | (simp; done) | (simp; omega)); replace hb := Own.join (by first | assumption | exact Own.alloc (by assumption) _ | exact Own.drew (by assumption) | exact Own.drew (Own.alloc (by assumption) _) | exact Own.alloc (Own.alloc (by assumption) _) _ | exact Own.alloc (Own.alloc (Own.alloc (by assumption) _) _) _ | exact Own.drewN (by assumption) _ | exact Own.drew (Own.start _) | exact Own.drewN (Own.start _) _ | exact Own.start _) hb) | (go_at_call 63; refine (cR.out _).mono ?_; rintro e w' ⟨rfl, hb⟩; obtain ⟨hc0, hf0, hl0⟩ := below_box (k := w.heap.size) hb (by first | omega | (simp; done) | (simp; omega)); replace hb := Own.join (by first | assumption | exact Own.alloc (by assumption) _ | exact Own.drew (by assumption) | exact Own.drew (Own.alloc (by assumption) _) | exact Own.alloc (Own.alloc (by assumption) _) _ | exact Own.alloc (Own.alloc (Own.alloc (by assumption) _) _) _ | exact Own.drewN (by assumption) _ | exact Own.drew (Own.start _) | exact Own.drewN (Own.start _) _ | exact Own.start _) hb)
      go_ret2
      exact ⟨rfl, by repeat (first | exact Below.refl _ _ | refine balloc ?_ _ | refine Below.drew ?_ | refine bdrewN ?_ _ | refine bto ?_ (Own.below (by assumption)) | refine bset ?_ (by first | (simp; done) | (simp; omega) | exact Own.le_w (by assumption) (by first | (simp; done) | (simp; omega))) _)⟩
  · have hg : needR zs x y = (0, 1) := by unfold needR; rw [if_neg (by rw [hl]; simp)]
    rw [hg]
    clear hg hz
    go_enter Try.func14, Try.ntmps14
    go_wp2_with (go_at_call 62; refine (s_IsLayout p n cap zs _ ?_).mono ?_; (focus (exact HIN'.out.own (by first | assumption | exact Own.alloc (by assumption) _ | exact Own.drew (by assumption) | exact Own.drew (Own.alloc (by assumption) _)))); rintro e w' ⟨rfl, hb⟩; obtain ⟨hc0, hf0, hl0⟩ := below_box (k := w.heap.size) hb (by first | omega | (simp; done) | (simp; omega)); replace hb := Own.join (by first | assumption | exact Own.alloc (by assumption) _ | exact Own.drew (by assumption) | exact Own.drew (Own.alloc (by assumption) _) | exact Own.alloc (Own.alloc (by assumption) _) _ | exact Own.alloc (Own.alloc (Own.alloc (by assumption) _) _) _ | exact Own.drewN (by assumption) _ | exact Own.drew (Own.start _) | exact Own.drewN (Own.start _) _ | exact Own.start _) hb)
    go_ret2
    exact ⟨rfl, by repeat (first | exact Below.refl _ _ | refine balloc ?_ _ | refine Below.drew ?_ | refine bdrewN ?_ _ | refine bto ?_ (Own.below (by assumption)) | refine bset ?_ (by first | (simp; done) | (simp; omega) | exact Own.le_w (by assumption) (by first | (simp; done) | (simp; omega))) _)⟩

set_option maxRecDepth 100000 in
theorem i_EnergyNeeded (p : Option Addr) (n cap : Nat) (zs : List Seg) (x y : Int) (w : World) (hin : Segs w p n zs) (hn : n ≤ 1048576) : Calls Try.prog 13 #[.agg #[.slice p n cap], .int .i64 x, .int .i64 y] w fun en w' => en = .returned (p2 (needR zs x y)) ∧ Below w.heap.size w w' := by
  have hz := hin.1
  have HIN' : Hid (Segs (w.alloc (Obj.cells #[.slice p n cap] 26)) p n zs) := (hin.alloc _); have h0 := Own.start (w.alloc (Obj.cells #[.slice p n cap] 26)); clear hin
  have cR := Lib.hid (fun W => i_isRun p n cap zs x y W hz hn)
  rcases Bool.eq_false_or_eq_true (layOk zs) with hl | hl
  · have HL := Lib.hid (layOk_iff.1 hl)
    rcases Bool.eq_false_or_eq_true (rangeB zs x y) with h1 | h1
    · obtain ⟨f, m, rfl, rfl, hf, hm⟩ := rangeB_nat h1
      have b := needL_bd HL.out f m
      have hg : needR zs f m = if 10000000000 < needL zs f m then (0, 3) else (needL zs f m, 0) := by unfold needR; rw [if_pos hl, if_pos h1]; rfl
      rw [hg]
      have hn24 : n ≤ 24 := by have := HL.out.2.1; omega
      have hfn : f < n := by omega
      have HA : Hid (AllOk (runL zs f m) m) := fun i hi => by rw [runL_sg _ _ _ _ hi]; exact runAt_ok HL.out f i
      have HE := Lib.hid (needLl_run zs f m m (Nat.le_refl _))
      clear hg hz
      generalize needL zs f m = r at *
      rcases ilt 10000000000 r with c | c
      · rw [if_pos c]
        go_enter Try.func13, Try.ntmps13
        go_wp2_with first | (go_at_call 58; refine (i_IsLayout p n cap zs _ ?_ hn).mono ?_; (focus (exact HIN'.out.own (by first | assumption | exact Own.alloc (by assumption) _ | exact Own.drew (by assumption) | exact Own.drew (Own.alloc (by assumption) _)))); rintro e w' ⟨rfl, hb⟩; obtain ⟨hc0, hf0, hl0⟩ := below_box (k := w.heap.size) hb (by first | omega | (simp; done) | (simp; omega)); replace hb := Own.join (by first | assumption | exact Own.alloc (by assumption) _ | exact Own.drew (by assumption) | exact Own.drew (Own.alloc (by assumption) _) | exact Own.alloc (Own.alloc (by assumption) _) _ | exact Own.alloc (Own.alloc (Own.alloc (by assumption) _) _) _ | exact Own.drewN (by assumption) _ | exact Own.drew (Own.start _) | exact Own.drewN (Own.start _) _ | exact Own.start _) hb) | (go_at_call 59; refine (cR.out _).mono ?_; rintro e w' ⟨rfl, hb⟩; obtain ⟨hc0, hf0, hl0⟩ := below_box (k := w.heap.size) hb (by first | omega | (simp; done) | (simp; omega)); replace hb := Own.join (by first | assumption | exact Own.alloc (by assumption) _ | exact Own.drew (by assumption) | exact Own.drew (Own.alloc (by assumption) _) | exact Own.alloc (Own.alloc (by assumption) _) _ | exact Own.alloc (Own.alloc (Own.alloc (by assumption) _) _) _ | exact Own.drewN (by assumption) _ | exact Own.drew (Own.start _) | exact Own.drewN (Own.start _) _ | exact Own.start _) hb)
        refine (i_along p n cap zs f m hfn hm _ (HIN'.out.own (by assumption)) hn24).mono ?_
        rintro e w3 ⟨q, c3, rfl, hsg, hb3⟩
        have HSG := Lib.hid hsg
        have HB3 := Lib.hid (Own.join (by assumption) hb3 : Own (w.alloc (Obj.cells #[.slice p n cap] 26)) w3)
        clear hsg hb3
        go_wp2_with fail
        refine (i_needed q m c3 (runL zs f m) hm _ HSG.out HA.out).mono ?_
        rw [HE.out]
        rintro e w4 ⟨⟨y1, y2, rfl⟩, hb4⟩
        have HB4 := Lib.hid (HB3.out.join hb4)
        clear hb4
        go_wp2
        go_ret2
        exact ⟨rfl, bto (balloc (Below.refl _ _) _) HB4.out.below⟩
      · rw [if_neg (by omega)]
        go_enter Try.func13, Try.ntmps13
        go_wp2_with first | (go_at_call 58; refine (i_IsLayout p n cap zs _ ?_ hn).mono ?_; (focus (exact HIN'.out.own (by first | assumption | exact Own.alloc (by assumption) _ | exact Own.drew (by assumption) | exact Own.drew (Own.alloc (by assumption) _)))); rintro e w' ⟨rfl, hb⟩; obtain ⟨hc0, hf0, hl0⟩ := below_box (k := w.heap.size) hb (by first | omega | (simp; done) | (simp; omega)); replace hb := Own.join (by first | assumption | exact Own.alloc (by assumption) _ | exact Own.drew (by assumption) | exact Own.drew (Own.alloc (by assumption) _) | exact Own.alloc (Own.alloc (by assumption) _) _ | exact Own.alloc (Own.alloc (Own.alloc (by assumption) _) _) _ | exact Own.drewN (by assumption) _ | exact Own.drew (Own.start _) | exact Own.drewN (Own.start _) _ | exact Own.start _) hb) | (go_at_call 59; refine (cR.out _).mono ?_; rintro e w' ⟨rfl, hb⟩; obtain ⟨hc0, hf0, hl0⟩ := below_box (k := w.heap.size) hb (by first | omega | (simp; done) | (simp; omega)); replace hb := Own.join (by first | assumption | exact Own.alloc (by assumption) _ | exact Own.drew (by assumption) | exact Own.drew (Own.alloc (by assumption) _) | exact Own.alloc (Own.alloc (by assumption) _) _ | exact Own.alloc (Own.alloc (Own.alloc (by assumption) _) _) _ | exact Own.drewN (by assumption) _ | exact Own.drew (Own.start _) | exact Own.drewN (Own.start _) _ | exact Own.start _) hb)
        refine (i_along p n cap zs f m hfn hm _ (HIN'.out.own (by assumption)) hn24).mono ?_
        rintro e w3 ⟨q, c3, rfl, hsg, hb3⟩
        have HSG := Lib.hid hsg
        have HB3 := Lib.hid (Own.join (by assumption) hb3 : Own (w.alloc (Obj.cells #[.slice p n cap] 26)) w3)
        clear hsg hb3
        go_wp2_with fail
        refine (i_needed q m c3 (runL zs f m) hm _ HSG.out HA.out).mono ?_
        rw [HE.out]
        rintro e w4 ⟨⟨y1, y2, rfl⟩, hb4⟩
        have HB4 := Lib.hid (HB3.out.join hb4)
        clear hb4
        go_wp2
        go_ret2
        exact ⟨rfl, bto (balloc (Below.refl _ _) _) HB4.out.below⟩
    · have hg : needR zs x y = (0, 2) := by unfold needR; rw [if_pos hl, if_neg (by rw [h1]; simp)]
      rw [hg]
      clear hg hz
      go_enter Try.func13, Try.ntmps13
      go_wp2_with first | (go_at_call 58; refine (i_IsLayout p n cap zs _ ?_ hn).mono ?_; (focus (exact HIN'.out.own (by first | assumption | exact Own.alloc (by assumption) _ | exact Own.drew (by assumption) | exact Own.drew (Own.alloc (by assumption) _)))); rintro e w' ⟨rfl, hb⟩; obtain ⟨hc0, hf0, hl0⟩ := below_box (k := w.heap.size) hb (by first | omega | (simp; done) | (simp; omega)); replace hb := Own.join (by first | assumption | exact Own.alloc (by assumption) _ | exact Own.drew (by assumption) | exact Own.drew (Own.alloc (by assumption) _) | exact Own.alloc (Own.alloc (by assumption) _) _ | exact Own.alloc (Own.alloc (Own.alloc (by assumption) _) _) _ | exact Own.drewN (by assumption) _ | exact Own.drew (Own.start _) | exact Own.drewN (Own.start _) _ | exact Own.start _) hb) | (go_at_call 59; refine (cR.out _).mono ?_; rintro e w' ⟨rfl, hb⟩; obtain ⟨hc0, hf0, hl0⟩ := below_box (k := w.heap.size) hb (by first | omega | (simp; done) | (simp; omega)); replace hb := Own.join (by first | assumption | exact Own.alloc (by assumption) _ | exact Own.drew (by assumption) | exact Own.drew (Own.alloc (by assumption) _) | exact Own.alloc (Own.alloc (by assumption) _) _ | exact Own.alloc (Own.alloc (Own.alloc (by assumption) _) _) _ | exact Own.drewN (by assumption) _ | exact Own.drew (Own.start _) | exact Own.drewN (Own.start _) _ | exact Own.start _) hb)
      go_ret2
      exact ⟨rfl, by repeat (first | exact Below.refl _ _ | refine balloc ?_ _ | refine Below.drew ?_ | refine bdrewN ?_ _ | refine bto ?_ (Own.below (by assumption)) | refine bset ?_ (by first | (simp; done) | (simp; omega) | exact Own.le_w (by assumption) (by first | (simp; done) | (simp; omega))) _)⟩
  · have hg : needR zs x y = (0, 1) := by unfold needR; rw [if_neg (by rw [hl]; simp)]
    rw [hg]
    clear hg hz
    go_enter Try.func13, Try.ntmps13
    go_wp2_with (go_at_call 58; refine (i_IsLayout p n cap zs _ ?_ hn).mono ?_; (focus (exact HIN'.out.own (by first | assumption | exact Own.alloc (by assumption) _ | exact Own.drew (by assumption) | exact Own.drew (Own.alloc (by assumption) _)))); rintro e w' ⟨rfl, hb⟩; obtain ⟨hc0, hf0, hl0⟩ := below_box (k := w.heap.size) hb (by first | omega | (simp; done) | (simp; omega)); replace hb := Own.join (by first | assumption | exact Own.alloc (by assumption) _ | exact Own.drew (by assumption) | exact Own.drew (Own.alloc (by assumption) _) | exact Own.alloc (Own.alloc (by assumption) _) _ | exact Own.alloc (Own.alloc (Own.alloc (by assumption) _) _) _ | exact Own.drewN (by assumption) _ | exact Own.drew (Own.start _) | exact Own.drewN (Own.start _) _ | exact Own.start _) hb)
    go_ret2
    exact ⟨rfl, by repeat (first | exact Below.refl _ _ | refine balloc ?_ _ | refine Below.drew ?_ | refine bdrewN ?_ _ | refine bto ?_ (Own.below (by assumption)) | refine bset ?_ (by first | (simp; done) | (simp; omega) | exact Own.le_w (by assumption) (by first | (simp; done) | (simp; omega))) _)⟩

end Go.Proofs.Ytgkfnggnhphboaa
