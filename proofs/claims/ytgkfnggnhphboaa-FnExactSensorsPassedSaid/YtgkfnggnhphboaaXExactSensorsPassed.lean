/- The Go function laws.FnExactSensorsPassed returns true for every input and leaves its arguments as they were; no condition. -/
import Derived.Test.YtgkfnggnhphboaaRows
import Derived.Test.YtgkfnggnhphboaaBase
import Derived.Test.YtgkfnggnhphboaaNum
import Derived.Test.YtgkfnggnhphboaaSeg
import Derived.Test.YtgkfnggnhphboaaList
import Derived.Test.YtgkfnggnhphboaaLay
import Derived.Test.YtgkfnggnhphboaaLay2
import Derived.Test.YtgkfnggnhphboaaLay3
import Derived.Test.YtgkfnggnhphboaaLay4
import Derived.Test.YtgkfnggnhphboaaLay5
import Derived.Test.YtgkfnggnhphboaaLay6
import Derived.Test.YtgkfnggnhphboaaLay7
import Derived.Test.YtgkfnggnhphboaaLay8
import Derived.Test.YtgkfnggnhphboaaLay9
import Derived.Test.YtgkfnggnhphboaaLay10
import Derived.Test.YtgkfnggnhphboaaLay11
import Derived.Test.YtgkfnggnhphboaaLay12
import Derived.Test.YtgkfnggnhphboaaLay13
import Derived.Test.YtgkfnggnhphboaaLay14
import Derived.Test.YtgkfnggnhphboaaLay15
import Derived.Test.YtgkfnggnhphboaaLay16
import Derived.Test.YtgkfnggnhphboaaLay17
import Derived.Test.YtgkfnggnhphboaaLay18
import Derived.Test.YtgkfnggnhphboaaLay19
import Derived.Test.YtgkfnggnhphboaaLay20
import Derived.Test.YtgkfnggnhphboaaPassed
import Derived.Test.YtgkfnggnhphboaaLay22
import Derived.Test.YtgkfnggnhphboaaLay23
import Derived.Lib.Hide
import Derived.WalkKit
import Derived.WalkSpells
import Derived.WalkLawsBesides
import Derived.ProofKit
import Derived.OpenShut
import Derived.ShutString
import Derived.ChangeOld
import Derived.Below
import Derived.Deep.RegionHeld3
import Derived.Deep.DeepCutAuto
import Derived.StillTailTactics
namespace Go.Proofs.Ytgkfnggnhphboaa.pFnExactSensorsPassed
open Go.ChangeShapes Go.WideShapes Go.ChangeAt Go.RowKit
set_option maxHeartbeats 2000000
set_option linter.unusedVariables false
set_option linter.unusedSimpArgs false

set_option maxHeartbeats 8000000 in
theorem walk (w : World) (p0 : Option Addr) (len0 cap0 : Nat) (z0 : List Seg) (r0 : Segs w p0 len0 z0) (p1 : Option Addr) (len1 cap1 : Nat) (z1 : List Int) (r1 : IsRow .i64 w p1 len1 cap1 z1) (a2 : Int) (wa2 : (Lit.int .i64 a2).wf = true) (a3 : Int) (wa3 : (Lit.int .i64 a3).wf = true) :
    Calls Try.prog 9 #[.agg #[.slice p0 len0 cap0], .slice p1 len1 cap1, .int .i64 a2, .int .i64 a3] w fun e w' => e = .returned (.bool true) ∧ Below w.heap.size w w' := by
  have hm := r0.2.1
  have hz := r0.1
  have hI := r1.ints
  have hz1 := hI.1
  have hm1 := hI.2.1
  have hs := l_szLayout p0 len0 cap0
  have R := Lib.hid (r0.keep ((Below.refl _ _).alloc (Nat.le_refl _) (Obj.cells #[.slice p0 len0 cap0] 62)))
  have RI := Lib.hid (hI.keep ((Below.refl _ _).alloc (Nat.le_refl _) (Obj.cells #[.slice p0 len0 cap0] 62)))
  unfold maxLen at hm1
  clear r0 r1 hI
  by_cases hle1 : len1 ≤ 1048576
  rotate_left
  · have hi1 : (1048576 : Int) < (len1 : Int) := by omega
    clear hs hz hz1
    go_enter Try.func9, Try.ntmps9
    go_wp2
    go_ret
    exact ⟨rfl, by repeat (first | exact Below.refl _ _ | refine balloc ?_ _ | refine Below.drew ?_ | refine bdrewN ?_ _ | refine bto ?_ (Own.below (by assumption)) | refine bset ?_ (by first | (simp; done) | (simp; omega) | exact Own.le_w (by assumption) (by first | (simp; done) | (simp; omega))) _)⟩
  have hi1 : (len1 : Int) ≤ 1048576 := by omega
  by_cases hle : len0 ≤ 1048576
  · have hs1 := fun w => hs w hm
    simp only [if_pos hle] at hs1
    have S := Lib.hid hs1
    have HZ := Lib.hid hz
    have HZ1 := Lib.hid hz1
    clear hs hs1 hz hz1
    have hl1 : (len0 : Int) ≤ 1048576 := by omega
    go_enter Try.func9, Try.ntmps9
    go_wp2_with fail
    refine (S.out _).mono ?_
    rintro e w1 ⟨rfl, hw1⟩
    have O1 : Own (w.alloc (Obj.cells #[.slice p0 len0 cap0] 62)) w1 := by rw [← hw1]; exact (Own.start _).alloc _
    have h1b : w1.cell? ⟨w.heap.size, 0, none⟩ = some (.slice p0 len0 cap0) := by rw [(below_box (k := w.heap.size) O1.below (by simp)).1 0]; go_simp
    clear hw1
    go_wp2_with fail
    refine (l_toLayout p0 len0 cap0 z0 _ (R.out.own O1) hle).mono ?_
    rintro e w2 ⟨g1, rfl, hg1, hr1, hb2⟩
    have O2 := O1.join hb2
    have S2 := Lib.hid (segs_of_row hr1 HZ.out hm)
    clear hr1 hb2 O1 h1b
    go_wp2_with fail
    refine (l_toInt64S p1 len1 cap1 z1 _ (RI.out.own O2) hle1).mono ?_
    rintro e w3 ⟨g2, rfl, hg2, hr2, hb3⟩
    have O3 := O2.join hb3
    have S3 := Lib.hid (S2.out.keep hb3)
    have I3 := Lib.hid (ints_of_row hr2 HZ1.out (by unfold maxLen; omega))
    clear hr2 hb3 O2
    go_wp2_with fail
    refine (s_SensorsPassed _ _ _ z0 _ _ _ z1 a2 a3 _ S3.out I3.out).mono ?_
    rintro e w4 ⟨q4, c4, rfl, Q4, hb4⟩
    have O4 := O3.join hb4
    have M4 : ∀ a, q4 = some a → a.block < w4.heap.size := fun a ha => (Q4.2.1 a ha).2
    have h4b : w4.cell? ⟨w.heap.size, 0, none⟩ = some (.slice p0 len0 cap0) := by rw [(below_box (k := w.heap.size) O4.below (by simp)).1 0]; go_simp
    have hW4 : w.heap.size + 1 ≤ w4.heap.size := by have := O4.le; simpa using this
    have X4 := Lib.hid Q4
    have N4 := Lib.hid M4
    clear hb4 O3 Q4 M4
    go_wp2_with fail
    refine (l_toLayout p0 len0 cap0 z0 _ (R.out.own O4) hle).mono ?_
    rintro e w5 ⟨g3, rfl, hg3, hr3, hb5⟩
    have O5 := (O4.join hb5).alloc (Obj.cells #[.slice (some ⟨g3, 0, none⟩) len0 len0] 26)
    have S5 := Lib.hid ((segs_of_row hr3 HZ.out hm).alloc (Obj.cells #[.slice (some ⟨g3, 0, none⟩) len0 len0] 26))
    have L5 := Lib.hid ((ownQ_of_row hr3 (Nat.le_refl _) (by omega)).keep (balloc (Below.refl _ _) (Obj.cells #[.slice (some ⟨g3, 0, none⟩) len0 len0] 26)))
    have Y4 := Lib.hid ((X4.out.keep hb5).keep (balloc (Below.refl _ _) (Obj.cells #[.slice (some ⟨g3, 0, none⟩) len0 len0] 26)))
    have hg3l := hr3.lt
    have h45 := hb5.size
    clear hr3 hb5 O4 h4b
    go_wp2_with fail
    refine (l_toInt64S p1 len1 cap1 z1 _ (RI.out.own O5) hle1).mono ?_
    rintro e w6 ⟨g4, rfl, hg4, hr4, hb6⟩
    have O6 := O5.join hb6
    have S6 := Lib.hid (S5.out.keep hb6)
    have L6 := Lib.hid (L5.out.keep hb6)
    have Y6 := Lib.hid (Y4.out.keep hb6)
    have I6 := Lib.hid (ints_of_row hr4 HZ1.out (by unfold maxLen; omega))
    have K6 := Lib.hid (ownQ_of_rowI hr4 (Nat.le_refl _) (by omega))
    have hg4l := hr4.lt
    have h6x : w6.cell? ⟨w5.heap.size, 0, none⟩ = some (.slice (some ⟨g3, 0, none⟩) len0 len0) := by rw [(below_box (k := w5.heap.size) hb6 (by simp)).1 0]; go_simp
    simp only [World.size_alloc] at hg4
    clear hr4 hb6 O5
    go_wp2_with fail
    refine (i_SensorsPassed _ _ _ z0 _ _ _ z1 a2 a3 _ S6.out hle I6.out).mono ?_
    rintro e w7 ⟨q7, c7, rfl, Q7, hb7⟩
    have O7 := O6.join hb7
    have S7 := Lib.hid (S6.out.keep hb7)
    have L7 := Lib.hid (L6.out.keep hb7)
    have Z4 := Lib.hid (Y6.out.keep hb7)
    have I7 := Lib.hid (I6.out.keep hb7)
    have K7 := Lib.hid (K6.out.keep hb7)
    have X7 := Lib.hid Q7
    have N7h : Hid (∀ a, q7 = some a → w6.heap.size ≤ a.block) := fun a ha => (Q7.2.1 a ha).1
    have h67 := hb7.size
    have h7x : w7.cell? ⟨w5.heap.size, 0, none⟩ = some (.slice (some ⟨g3, 0, none⟩) len0 len0) := by rw [(below_box (k := w5.heap.size) hb7 (World.block_lt_of_cell? w6 _ h6x)).1 0]; exact h6x
    clear hb7 O6 h6x Q7
    go_wp2_with fail
    refine (l_eqInt64S _ _ _ _ _ _ _ X7.out.ints Z4.out.ints).mono ?_
    rintro e w8 ⟨rfl, hb8⟩
    have O8 := O7.join hb8
    have S8 := Lib.hid (S7.out.keep hb8)
    have L8 := Lib.hid (L7.out.keep hb8)
    have A4 := Lib.hid (Z4.out.keep hb8)
    have A7 := Lib.hid (X7.out.keep hb8)
    have I8 := Lib.hid (I7.out.keep hb8)
    have K8 := Lib.hid (K7.out.keep hb8)
    have h78 := hb8.size
    have h8x : w8.cell? ⟨w5.heap.size, 0, none⟩ = some (.slice (some ⟨g3, 0, none⟩) len0 len0) := by rw [(below_box (k := w5.heap.size) hb8 (World.block_lt_of_cell? w7 _ h7x)).1 0]; exact h7x
    have h8b : w8.cell? ⟨w.heap.size, 0, none⟩ = some (.slice p0 len0 cap0) := by rw [(below_box (k := w.heap.size) O8.below (by simp)).1 0]; go_simp
    have hl8x := World.block_lt_of_cell? w8 _ h8x
    have hl8b := World.block_lt_of_cell? w8 _ h8b
    clear hb8 O7 h7x
    go_upto_region 13 with fail
    go_region_held3 (fun w' => w'.cell? ⟨w5.heap.size, 0, none⟩ = some (.slice (some ⟨g3, 0, none⟩) len0 len0) ∧ w'.cell? ⟨w.heap.size, 0, none⟩ = some (.slice p0 len0 cap0)) (first | go_keep | exact ⟨by rw [hk1 0]; assumption, by rw [hk2 0]; assumption⟩) (first | (go_at_call 43; refine (l_toLayout p0 len0 cap0 z0 _ (R.out.own O8.drew) hle).mono ?_; rintro e w9 ⟨g5, rfl, hg5, hr5, hb9⟩; obtain ⟨hk1, -, L1⟩ := below_box (k := w5.heap.size) hb9 hl8x; obtain ⟨hk2, -, L2⟩ := below_box (k := w.heap.size) hb9 hl8b; have S9 := Lib.hid (segs_of_row hr5 HZ.out hm); have O9 := Lib.hid (O8.drew.join hb9); have S89 := Lib.hid (S8.out.drew.keep hb9); have B9 := Lib.hid hb9; clear hr5 hb9) | (go_at_call 47; refine (l_eqLayout _ _ _ _ _ z0 _ S89.out S9.out).mono ?_; rintro e w10 ⟨rfl, hb10⟩; obtain ⟨hk1, -, -⟩ := below_box (k := w5.heap.size) hb10 L1; obtain ⟨hk2, -, -⟩ := below_box (k := w.heap.size) hb10 L2; have O10 := Lib.hid (O9.out.join hb10); have B10 := Lib.hid (Below.trans B9.out (hb10.mono B9.out.size)); clear hb10))
    all_goals (
      clear hk1 hk2
      have L10 := Lib.hid ((show OwnQ _ _ _ w8.drew _ _ _ from L8.out).keep B10.out)
      have C4 := Lib.hid ((show OwnQ _ _ _ w8.drew _ _ _ from A4.out).keep B10.out)
      have C7 := Lib.hid ((show OwnQ _ _ _ w8.drew _ _ _ from A7.out).keep B10.out)
      have I10 := Lib.hid ((show Ints _ w8.drew _ _ _ from I8.out).keep B10.out)
      have K10 := Lib.hid ((show OwnQ _ _ _ w8.drew _ _ _ from K8.out).keep B10.out)
      have h810 : w8.heap.size ≤ w10.heap.size := B10.out.size
      have h10x : w10.cell? ⟨w5.heap.size, 0, none⟩ = some (.slice (some ⟨g3, 0, none⟩) len0 len0) := (by rw [(below_box (k := w5.heap.size) B10.out hl8x).1 0]; exact h8x)
      clear h8x h8b
      go_wp2_with fail
      refine (l_toInt64S p1 len1 cap1 z1 _ (RI.out.own O10.out) hle1).mono ?_
      rintro e w11 ⟨g6, rfl, hg6, hr6, hb11⟩
      have O11 := O10.out.join hb11
      have I11 := Lib.hid (I10.out.keep hb11)
      have J11 := Lib.hid (ints_of_row hr6 HZ1.out (by unfold maxLen; omega))
      clear hr6
      go_wp2_with fail
      refine (l_eqInt64S _ _ _ _ _ _ _ I11.out J11.out).mono ?_
      rintro e w12 ⟨rfl, hb12⟩
      have O12 := O11.join hb12
      have B12 := Below.trans hb11 (hb12.mono hb11.size)
      have L12 := Lib.hid (L10.out.keep B12)
      have D4 := Lib.hid (C4.out.keep B12)
      have D7 := Lib.hid (C7.out.keep B12)
      have K12 := Lib.hid (K10.out.keep B12)
      have h12x : w12.cell? ⟨w5.heap.size, 0, none⟩ = some (.slice (some ⟨g3, 0, none⟩) len0 len0) := (by rw [(below_box (k := w5.heap.size) B12 (World.block_lt_of_cell? w10 _ h10x)).1 0]; exact h10x)
      have h12b : w12.cell? ⟨w.heap.size, 0, none⟩ = some (.slice p0 len0 cap0) := by rw [(below_box (k := w.heap.size) O12.below (by simp)).1 0]; go_simp
      have h1012 := B12.size
      clear hb11 hb12 B12 O11 h10x
      go_wp2_with fail
      refine (l_markLayout1 (some ⟨g3, 0, none⟩) len0 len0 _ _ _ L12.out).mono ?_
      rintro e w13 ⟨rfl, hc13⟩
      have O13 : Own (w.alloc (Obj.cells #[.slice p0 len0 cap0] 62)) w13 := Below.trans O12.below (hc13.below (O12.le) (fun a ha => by simp only [Option.some.injEq] at ha; subst ha; simp; omega))
      have E4 := Lib.hid (D4.out.other hc13 (fun a b ha hb => by simp only [Option.some.injEq] at hb; subst hb; have := N4.out a ha; simp; omega))
      have E7 := Lib.hid (D7.out.other hc13 (fun a b ha hb => by simp only [Option.some.injEq] at hb; subst hb; have := N7h.out a ha; simp; omega))
      have K13 := Lib.hid (K12.out.other hc13 (fun a b ha hb => by simp only [Option.some.injEq] at ha hb; subst ha; subst hb; simp; omega))
      have h13b : w13.cell? ⟨w.heap.size, 0, none⟩ = some (.slice p0 len0 cap0) := by rw [(below_box (k := w.heap.size) O13.below (by simp)).1 0]; go_simp
      clear hc13 O12 h12x h12b
      go_wp2_with fail
      refine (l_markInt64Sk (some ⟨g4, 0, none⟩) len1 len1 _ _ (1 + len0 * 7) _ (by simp) (by omega) _ K13.out).mono ?_
      rintro e w14 ⟨rfl, -, hc14⟩
      have O14 : Own (w.alloc (Obj.cells #[.slice p0 len0 cap0] 62)) w14 := Below.trans O13.below (hc14.below (O13.le) (fun a ha => by simp only [Option.some.injEq] at ha; subst ha; simp; omega))
      have F4 := Lib.hid (E4.out.other hc14 (fun a b ha hb => by simp only [Option.some.injEq] at hb; subst hb; have := N4.out a ha; simp; omega))
      have F7 := Lib.hid (E7.out.other hc14 (fun a b ha hb => by simp only [Option.some.injEq] at hb; subst hb; have := N7h.out a ha; simp; omega))
      have h14b : w14.cell? ⟨w.heap.size, 0, none⟩ = some (.slice p0 len0 cap0) := by rw [(below_box (k := w.heap.size) O14.below (by simp)).1 0]; go_simp
      clear hc14 O13 h13b
      go_wp2_with fail
      refine (l_eqInt64S _ _ _ _ _ _ _ F7.out.ints F4.out.ints).mono ?_
      rintro e w15 ⟨rfl, hb15⟩
      have O15 := O14.join hb15
      have G4 := Lib.hid (F4.out.keep hb15)
      have G7 := Lib.hid (F7.out.keep hb15)
      have h15b : w15.cell? ⟨w.heap.size, 0, none⟩ = some (.slice p0 len0 cap0) := by rw [(below_box (k := w.heap.size) O15.below (by simp)).1 0]; go_simp
      clear hb15 O14 h14b
      go_wp2_with fail
      refine (l_markInt64S1 _ _ _ _ _ _ G7.out).mono ?_
      rintro e w16 ⟨rfl, H7, hc16⟩
      have O16 : Own (w.alloc (Obj.cells #[.slice p0 len0 cap0] 62)) w16 := Below.trans O15.below (hc16.below (O15.le) (fun a ha => by have := N7h.out a ha; simp; omega))
      have H4 := Lib.hid (G4.out.other hc16 (fun a b ha hb => by have := N4.out a ha; have := N7h.out b hb; omega))
      have H7h := Lib.hid H7
      have h16b : w16.cell? ⟨w.heap.size, 0, none⟩ = some (.slice p0 len0 cap0) := by rw [(below_box (k := w.heap.size) O16.below (by simp)).1 0]; go_simp
      clear hc16 H7 O15 h15b
      go_wp2_with fail
      refine (l_heldInt64S1 _ _ _ _ _ H7h.out).mono ?_
      rintro e w17 ⟨rfl, hw17⟩
      subst hw17
      go_wp2_with fail
      refine (l_toLayout p0 len0 cap0 z0 _ (R.out.own O16) hle).mono ?_
      rintro e w18 ⟨g7, rfl, hg7, hr7, hb18⟩
      have O18 := O16.join hb18
      have P4 := Lib.hid (H4.out.keep hb18)
      have P7 := Lib.hid (H7h.out.keep hb18)
      have S18 := Lib.hid (segs_of_row hr7 HZ.out hm)
      clear hr7 hb18 O16 h16b
      go_wp2_with fail
      refine (l_toInt64S p1 len1 cap1 z1 _ (RI.out.own O18) hle1).mono ?_
      rintro e w19 ⟨g8, rfl, hg8, hr8, hb19⟩
      have O19 := O18.join hb19
      have T4 := Lib.hid (P4.out.keep hb19)
      have T7 := Lib.hid (P7.out.keep hb19)
      have S19 := Lib.hid (S18.out.keep hb19)
      have I19 := Lib.hid (ints_of_row hr8 HZ1.out (by unfold maxLen; omega))
      clear hr8 hb19 O18
      go_wp2_with fail
      refine (i_SensorsPassed _ _ _ z0 _ _ _ z1 a2 a3 _ S19.out hle I19.out).mono ?_
      rintro e w20 ⟨q20, c20, rfl, Q20, hb20⟩
      have O20 := O19.join hb20
      have U4 := Lib.hid (T4.out.keep hb20)
      have U7 := Lib.hid (T7.out.keep hb20)
      have X20 := Lib.hid Q20
      clear hb20 O19 Q20
      go_wp2_with fail
      refine (l_eqInt64S _ _ _ _ _ _ _ X20.out.ints U4.out.ints).mono ?_
      rintro e w21 ⟨rfl, hb21⟩
      have O21 := Lib.hid (O20.join hb21)
      have V7 := Lib.hid (U7.out.keep hb21)
      clear hb21 O20
      go_wp2_with fail
      refine (l_heldInt64S1 _ _ _ _ _ V7.out).mono ?_
      rintro e w22 ⟨rfl, hw22⟩
      subst hw22
      go_wp2
      go_ret
      exact ⟨rfl, bto (balloc (Below.refl _ _) _) O21.out.below⟩)
  · have hs1 := fun w => hs w hm
    simp only [if_neg hle] at hs1
    have S := Lib.hid hs1
    clear hs hs1 hz hz1
    go_enter Try.func9, Try.ntmps9
    go_wp2_with fail
    refine (S.out _).mono ?_
    rintro e w1 ⟨rfl, hw1⟩
    have hb1 : Own (w.alloc (Obj.cells #[.slice p0 len0 cap0] 62)) w1 := by rw [← hw1]; exact (Own.start _).alloc _
    clear hw1
    go_wp2
    go_ret
    exact ⟨rfl, bto (balloc (Below.refl _ _) _) hb1.below⟩

theorem own : ownKnob Try.prog.godebug = none := by kernel_rfl
theorem laidOut : laidOutB Try.prog = true := by kernel_rfl
set_option maxRecDepth 100000 in
theorem lifted (os : Os) (started : os.Started) (H : Type) (enc : TypeId × Value → H) :
    ReturnsInHanded {} Try.checked os 9 .any (Rows.fnExactSensorsPassedSpec.pre6 enc Try.prog Try.f9 Rows.fnExactSensorsPassedRow.domain false) (Rows.fnExactSensorsPassedSpec.post enc Try.prog Try.f9 false true false false) := by
  refine returnsInHanded_of_change (C := Try.checked) own started (by kernel_rfl) Try.func9
    (ChangeSpec.witness6 (enc := enc) (C := Try.checked) false ⟨#[], #[.agg #[.slice none 0 0], .slice none 0 0, .int .i64 0, .int .i64 0], []⟩ 8 (by kernel_rfl) (by kernel_rfl) (by kernel_rfl) (by kernel_rfl)) ?_
  intro W base args ds gs before hval0 hW hcnd _
  have hval : ∀ (j : Nat) t v, Try.f9.params[j]? = some t → args[j]? = some v → Value.okWide Try.prog W .any base t v := hval0
  have hW' := hW
  obtain ⟨p, q, hA0, hV, rfl, hfz, hnd⟩ := hW
  have hA : DataW.TrodAll enc Try.prog W 0 (fun _ => true) true Try.f9.params.toList args.toList ds p := hA0
  rw [Try.params9] at hA hval
  obtain ⟨v0, vs0, d0, ds0, pp0, qq0, hargs, rfl, rfl, h0, rr0⟩ := trodAll_cons hA
  obtain ⟨v1, vs1, d1, ds1, pp1, qq1, rfl, rfl, rfl, h1, rr1⟩ := trodAll_cons rr0
  obtain ⟨v2, vs2, d2, ds2, pp2, qq2, rfl, rfl, rfl, h2, rr2⟩ := trodAll_cons rr1
  obtain ⟨v3, vs3, d3, ds3, pp3, qq3, rfl, rfl, rfl, h3, rr3⟩ := trodAll_cons rr2
  obtain ⟨rfl, rfl, rfl⟩ := trodAll_nil rr3
  obtain rfl : args = #[v0, v1, v2, v3] := by cases args; simp_all
  obtain ⟨rfl, rfl⟩ := trodVars_none hV
  have k0_ := h0
  have lt0_ : ∀ x ∈ pp0, x.block < W.heap.size := by obtain ⟨m, hm⟩ := h0; exact DataW.trod_lt m _ _ _ hm
  have k1_ := h1
  have lt1_ : ∀ x ∈ pp1, x.block < W.heap.size := by obtain ⟨m, hm⟩ := h1; exact DataW.trod_lt m _ _ _ hm
  have k2_ := h2
  have lt2_ : ∀ x ∈ pp2, x.block < W.heap.size := by obtain ⟨m, hm⟩ := h2; exact DataW.trod_lt m _ _ _ hm
  have k3_ := h3
  have lt3_ : ∀ x ∈ pp3, x.block < W.heap.size := by obtain ⟨m, hm⟩ := h3; exact DataW.trod_lt m _ _ _ hm
  obtain ⟨p0, len0, cap0, z0, rfl, r0⟩ := open_lay (ti := 2) (tv := 138) (ts := 140) (tl := 60) Try.underlying62 rfl rfl (by kernel_rfl) (by kernel_rfl) Try.underlying60 Try.underlying140 rfl rfl (by kernel_rfl) (by kernel_rfl) (by kernel_rfl) Try.underlying138 (by kernel_rfl) rfl rfl Try.underlying2 (hval 0 62 v0 rfl rfl) h0
  obtain ⟨p1, len1, cap1, rfl⟩ := okWide_slice Try.underlying40 (hval 1 40 v1 rfl rfl)
  obtain ⟨z1, r1⟩ := open_row (k := .i64) Try.underlying40 Try.underlying2 (by kernel_rfl) h1
  obtain ⟨a2, rfl, -, -, wa2⟩ := open_int Try.underlying2 (hval 2 2 v2 rfl rfl) h2
  obtain ⟨a3, rfl, -, -, wa3⟩ := open_int Try.underlying2 (hval 3 2 v3 rfl rfl) h3
  clear hA0 hval0
  refine (walk  W p0 len0 cap0 z0 r0 p1 len1 cap1 z1 r1 a2 wa2 a3 wa3).mono fun e W' ⟨he, bel⟩ => ?_
  subst he
  exact ⟨_, rfl, _, _, _, [], _, [], hW', trodAll_mk1 (shut_bool Try.underlying4 _), (trodAll_cons_mk (Below.trod laidOut (by kernel_rfl) (of_decide_eq_true (by kernel_rfl)) k0_ bel lt0_) (trodAll_cons_mk (Below.trod laidOut (by kernel_rfl) (of_decide_eq_true (by kernel_rfl)) k1_ bel lt1_) (trodAll_cons_mk (Below.trod laidOut (by kernel_rfl) (of_decide_eq_true (by kernel_rfl)) k2_ bel lt2_) (trodAll_cons_mk (Below.trod laidOut (by kernel_rfl) (of_decide_eq_true (by kernel_rfl)) k3_ bel lt3_) trodAll_mk0)))), rfl, bel.frame _, fun h => by cases h⟩

theorem over : Rows.fnExactSensorsPassedRow.holds Try.pinned (OpenSpec.ofChange Rows.fnExactSensorsPassedSpec) :=
  OpenClaim.holds_of_wide 9 Try.f9 rfl rfl rfl rfl rfl rfl rfl ⟨rfl, rfl, rfl, rfl, rfl⟩ rfl rfl rfl rfl rfl (by kernel_rfl) Try.func9 (by kernel_rfl)
    (of_decide_eq_true (by kernel_rfl)) (by unfold Func.isWrapper; first | (rw [if_pos (by decide +kernel)]; kernel_rfl) | (rw [if_neg (by decide +kernel)]; exact ⟨rfl, rfl⟩))
    (fun os started H enc _ => lifted os started H enc)

/-- the given statement -/
theorem proved : Rows.FnExactSensorsPassedSaid := over
#print axioms proved
end Go.Proofs.Ytgkfnggnhphboaa.pFnExactSensorsPassed
