/- The Go function laws.FnExactAreSeparate returns true for every input and leaves its arguments as they were; no condition. -/
import Derived.Test.YtfbineimojnmbaaRows
import Derived.Test.YtfbineimojnmbaaBase
import Derived.Test.YtfbineimojnmbaaNum
import Derived.Test.YtfbineimojnmbaaSeg
import Derived.Test.YtfbineimojnmbaaList
import Derived.Test.YtfbineimojnmbaaLay
import Derived.Test.YtfbineimojnmbaaLay2
import Derived.Test.YtfbineimojnmbaaLay3
import Derived.Test.YtfbineimojnmbaaLay4
import Derived.Test.YtfbineimojnmbaaLay5
import Derived.Test.YtfbineimojnmbaaLay6
import Derived.Test.YtfbineimojnmbaaLay7
import Derived.Test.YtfbineimojnmbaaLay19
import Derived.Lib.Hide
import Derived.WalkKit
import Derived.WalkSpells
import Derived.WalkLawsBesides
import Derived.ProofKit
import Derived.OpenShut
import Derived.ShutString
import Derived.ChangeOld
import Derived.Below
import Derived.Deep.RegionHeld3
import Derived.Deep.DeepCutAuto
import Derived.StillTailTactics
namespace Go.Proofs.Ytfbineimojnmbaa.pFnExactAreSeparate
open Go.ChangeShapes Go.WideShapes Go.ChangeAt Go.RowKit
set_option maxHeartbeats 2000000
set_option linter.unusedVariables false
set_option linter.unusedSimpArgs false

set_option maxHeartbeats 8000000 in
theorem walk (w : World) (p0 : Option Addr) (len0 cap0 : Nat) (z0 : List Seg) (r0 : Segs w p0 len0 z0) (p1 : Option Addr) (len1 cap1 : Nat) (z1 : List Int) (r1 : IsRow .i64 w p1 len1 cap1 z1) (a2 : Int) (wa2 : (Lit.int .i64 a2).wf = true) :
    Calls Try.prog 11 #[.agg #[.slice p0 len0 cap0], .slice p1 len1 cap1, .int .i64 a2] w fun e w' => e = .returned (.bool true) ∧ Below w.heap.size w w' := by
  have hm := r0.2.1
  have hz := r0.1
  have hI := r1.ints
  have hz1 := hI.1
  have hm1 := hI.2.1
  have hs := l_szLayout p0 len0 cap0
  have R := Lib.hid (r0.keep ((Below.refl _ _).alloc (Nat.le_refl _) (Obj.cells #[.slice p0 len0 cap0] 24)))
  have RI := Lib.hid (hI.keep ((Below.refl _ _).alloc (Nat.le_refl _) (Obj.cells #[.slice p0 len0 cap0] 24)))
  unfold maxLen at hm1
  clear r0 r1 hI
  by_cases hle1 : len1 ≤ 1048576
  rotate_left
  · have hi1 : (1048576 : Int) < (len1 : Int) := by omega
    clear hs hz hz1
    go_enter Try.func11, Try.ntmps11
    go_wp2
    go_ret
    exact ⟨rfl, by repeat (first | exact Below.refl _ _ | refine balloc ?_ _ | refine Below.drew ?_ | refine bdrewN ?_ _ | refine bto ?_ (Own.below (by assumption)) | refine bset ?_ (by first | (simp; done) | (simp; omega) | exact Own.le_w (by assumption) (by first | (simp; done) | (simp; omega))) _)⟩
  have hi1 : (len1 : Int) ≤ 1048576 := by omega
  by_cases hle : len0 ≤ 1048576
  · have hs1 := fun w => hs w hm
    simp only [if_pos hle] at hs1
    have S := Lib.hid hs1
    have HZ := Lib.hid hz
    have HZ1 := Lib.hid hz1
    clear hs hs1 hz hz1
    have hl1 : (len0 : Int) ≤ 1048576 := by omega
    go_enter Try.func11, Try.ntmps11
    go_wp2_with fail
    refine (S.out _).mono ?_
    rintro e w1 ⟨rfl, hw1⟩
    have O1 : Own (w.alloc (Obj.cells #[.slice p0 len0 cap0] 24)) w1 := by rw [← hw1]; exact (Own.start _).alloc _
    have h1b : w1.cell? ⟨w.heap.size, 0, none⟩ = some (.slice p0 len0 cap0) := by rw [(below_box (k := w.heap.size) O1.below (by simp)).1 0]; go_simp
    clear hw1
    go_wp2_with fail
    refine (l_toLayout p0 len0 cap0 z0 _ (R.out.own O1) hle).mono ?_
    rintro e w2 ⟨g1, rfl, hg1, hr1, hb2⟩
    have O2 := O1.join hb2
    have S2 := Lib.hid (segs_of_row hr1 HZ.out hm)
    clear hr1 hb2 O1 h1b
    go_wp2_with fail
    refine (l_toInt64S p1 len1 cap1 z1 _ (RI.out.own O2) hle1).mono ?_
    rintro e w3 ⟨g2, rfl, hg2, hr2, hb3⟩
    have O3 := O2.join hb3
    have S3 := Lib.hid (S2.out.keep hb3)
    have I3 := Lib.hid (ints_of_row hr2 HZ1.out (by unfold maxLen; omega))
    clear hr2 hb3 O2
    go_wp2_with fail
    refine (s_AreSeparate _ _ _ z0 _ _ _ z1 a2 _ S3.out I3.out).mono ?_
    rintro e w4 ⟨rfl, hb4⟩
    have O4 := O3.join hb4
    have h4b : w4.cell? ⟨w.heap.size, 0, none⟩ = some (.slice p0 len0 cap0) := by rw [(below_box (k := w.heap.size) O4.below (by simp)).1 0]; go_simp
    clear hb4 O3
    go_wp2_with fail
    refine (l_toLayout p0 len0 cap0 z0 _ (R.out.own O4) hle).mono ?_
    rintro e w5 ⟨g3, rfl, hg3, hr3, hb5⟩
    have O5 := (O4.join hb5).alloc (Obj.cells #[.slice (some ⟨g3, 0, none⟩) len0 len0] 29)
    have S5 := Lib.hid ((segs_of_row hr3 HZ.out hm).alloc (Obj.cells #[.slice (some ⟨g3, 0, none⟩) len0 len0] 29))
    clear hr3 hb5 O4 h4b
    go_wp2_with fail
    refine (l_toInt64S p1 len1 cap1 z1 _ (RI.out.own O5) hle1).mono ?_
    rintro e w6 ⟨g4, rfl, hg4, hr4, hb6⟩
    have O6 := O5.join hb6
    have S6 := Lib.hid (S5.out.keep hb6)
    have I6 := Lib.hid (ints_of_row hr4 HZ1.out (by unfold maxLen; omega))
    have h6x : w6.cell? ⟨w5.heap.size, 0, none⟩ = some (.slice (some ⟨g3, 0, none⟩) len0 len0) := by rw [(below_box (k := w5.heap.size) hb6 (by simp)).1 0]; go_simp
    clear hr4 hb6 O5
    go_wp2_with fail
    refine (i_AreSeparate _ _ _ z0 _ _ _ z1 a2 (Nat.le_refl _) _ S6.out hle I6.out).mono ?_
    rintro e w7 ⟨rfl, hb7⟩
    have O7 := O6.join hb7
    have S7 := Lib.hid (S6.out.keep hb7)
    have I7 := Lib.hid (I6.out.keep hb7)
    have h7x : w7.cell? ⟨w5.heap.size, 0, none⟩ = some (.slice (some ⟨g3, 0, none⟩) len0 len0) := by rw [(below_box (k := w5.heap.size) hb7 (World.block_lt_of_cell? w6 _ h6x)).1 0]; exact h6x
    have h7b : w7.cell? ⟨w.heap.size, 0, none⟩ = some (.slice p0 len0 cap0) := by rw [(below_box (k := w.heap.size) O7.below (by simp)).1 0]; go_simp
    have hl7x := World.block_lt_of_cell? w7 _ h7x
    have hl7b := World.block_lt_of_cell? w7 _ h7b
    clear hb7 O6 h6x
    go_upto_region 13 with fail
    go_region_held3 (fun w' => w'.cell? ⟨w5.heap.size, 0, none⟩ = some (.slice (some ⟨g3, 0, none⟩) len0 len0) ∧ w'.cell? ⟨w.heap.size, 0, none⟩ = some (.slice p0 len0 cap0)) (first | go_keep | exact ⟨by rw [hk1 0]; assumption, by rw [hk2 0]; assumption⟩) (first | (go_at_call 17; refine (l_toLayout p0 len0 cap0 z0 _ (R.out.own O7.drew) hle).mono ?_; rintro e w8 ⟨g5, rfl, hg5, hr5, hb8⟩; obtain ⟨hk1, -, L1⟩ := below_box (k := w5.heap.size) hb8 hl7x; obtain ⟨hk2, -, L2⟩ := below_box (k := w.heap.size) hb8 hl7b; have S8 := Lib.hid (segs_of_row hr5 HZ.out hm); have O8 := Lib.hid (O7.drew.join hb8); have S78 := Lib.hid (S7.out.drew.keep hb8); have I8 := Lib.hid ((show Ints _ w7.drew _ _ _ from I7.out).keep hb8); clear hr5 hb8) | (go_at_call 19; refine (l_eqLayout _ _ _ _ _ z0 _ S78.out S8.out).mono ?_; rintro e w9 ⟨rfl, hb9⟩; obtain ⟨hk1, -, -⟩ := below_box (k := w5.heap.size) hb9 L1; obtain ⟨hk2, -, -⟩ := below_box (k := w.heap.size) hb9 L2; have O9 := Lib.hid (O8.out.join hb9); have I9 := Lib.hid (I8.out.keep hb9); clear hb9))
    all_goals (
      clear hk1 hk2 h7x h7b
      go_wp2_with fail
      refine (l_toInt64S p1 len1 cap1 z1 _ (RI.out.own O9.out) hle1).mono ?_
      rintro e w10 ⟨g6, rfl, hg6, hr6, hb10⟩
      have O10 := Lib.hid (O9.out.join hb10)
      have I10 := Lib.hid (I9.out.keep hb10)
      have J10 := Lib.hid (ints_of_row hr6 HZ1.out (by unfold maxLen; omega))
      clear hr6 hb10
      go_wp2_with fail
      refine (l_eqInt64S _ _ _ _ _ _ _ I10.out J10.out).mono ?_
      rintro e w11 ⟨rfl, hb11⟩
      have O11 := Lib.hid (O10.out.join hb11)
      clear hb11
      go_wp2
      go_ret
      exact ⟨rfl, bto (balloc (Below.refl _ _) _) O11.out.below⟩)
  · have hs1 := fun w => hs w hm
    simp only [if_neg hle] at hs1
    have S := Lib.hid hs1
    clear hs hs1 hz hz1
    go_enter Try.func11, Try.ntmps11
    go_wp2_with fail
    refine (S.out _).mono ?_
    rintro e w1 ⟨rfl, hw1⟩
    have hb1 : Own (w.alloc (Obj.cells #[.slice p0 len0 cap0] 24)) w1 := by rw [← hw1]; exact (Own.start _).alloc _
    clear hw1
    go_wp2
    go_ret
    exact ⟨rfl, bto (balloc (Below.refl _ _) _) hb1.below⟩

theorem own : ownKnob Try.prog.godebug = none := by kernel_rfl
theorem laidOut : laidOutB Try.prog = true := by kernel_rfl
set_option maxRecDepth 100000 in
theorem lifted (os : Os) (started : os.Started) (H : Type) (enc : TypeId × Value → H) :
    ReturnsInHanded {} Try.checked os 11 .any (Rows.fnExactAreSeparateSpec.pre6 enc Try.prog Try.f11 Rows.fnExactAreSeparateRow.domain false) (Rows.fnExactAreSeparateSpec.post enc Try.prog Try.f11 false true false false) := by
  refine returnsInHanded_of_change (C := Try.checked) own started (by kernel_rfl) Try.func11
    (ChangeSpec.witness6 (enc := enc) (C := Try.checked) false ⟨#[], #[.agg #[.slice none 0 0], .slice none 0 0, .int .i64 0], []⟩ 8 (by kernel_rfl) (by kernel_rfl) (by kernel_rfl) (by kernel_rfl)) ?_
  intro W base args ds gs before hval0 hW hcnd _
  have hval : ∀ (j : Nat) t v, Try.f11.params[j]? = some t → args[j]? = some v → Value.okWide Try.prog W .any base t v := hval0
  have hW' := hW
  obtain ⟨p, q, hA0, hV, rfl, hfz, hnd⟩ := hW
  have hA : DataW.TrodAll enc Try.prog W 0 (fun _ => true) true Try.f11.params.toList args.toList ds p := hA0
  rw [Try.params11] at hA hval
  obtain ⟨v0, vs0, d0, ds0, pp0, qq0, hargs, rfl, rfl, h0, rr0⟩ := trodAll_cons hA
  obtain ⟨v1, vs1, d1, ds1, pp1, qq1, rfl, rfl, rfl, h1, rr1⟩ := trodAll_cons rr0
  obtain ⟨v2, vs2, d2, ds2, pp2, qq2, rfl, rfl, rfl, h2, rr2⟩ := trodAll_cons rr1
  obtain ⟨rfl, rfl, rfl⟩ := trodAll_nil rr2
  obtain rfl : args = #[v0, v1, v2] := by cases args; simp_all
  obtain ⟨rfl, rfl⟩ := trodVars_none hV
  have k0_ := h0
  have lt0_ : ∀ x ∈ pp0, x.block < W.heap.size := by obtain ⟨m, hm⟩ := h0; exact DataW.trod_lt m _ _ _ hm
  have k1_ := h1
  have lt1_ : ∀ x ∈ pp1, x.block < W.heap.size := by obtain ⟨m, hm⟩ := h1; exact DataW.trod_lt m _ _ _ hm
  have k2_ := h2
  have lt2_ : ∀ x ∈ pp2, x.block < W.heap.size := by obtain ⟨m, hm⟩ := h2; exact DataW.trod_lt m _ _ _ hm
  obtain ⟨p0, len0, cap0, z0, rfl, r0⟩ := open_lay (ti := 2) (tv := 53) (ts := 101) (tl := 22) Try.underlying24 rfl rfl (by kernel_rfl) (by kernel_rfl) Try.underlying22 Try.underlying101 rfl rfl (by kernel_rfl) (by kernel_rfl) (by kernel_rfl) Try.underlying53 (by kernel_rfl) rfl rfl Try.underlying2 (hval 0 24 v0 rfl rfl) h0
  obtain ⟨p1, len1, cap1, rfl⟩ := okWide_slice Try.underlying37 (hval 1 37 v1 rfl rfl)
  obtain ⟨z1, r1⟩ := open_row (k := .i64) Try.underlying37 Try.underlying2 (by kernel_rfl) h1
  obtain ⟨a2, rfl, -, -, wa2⟩ := open_int Try.underlying2 (hval 2 2 v2 rfl rfl) h2
  clear hA0 hval0
  refine (walk  W p0 len0 cap0 z0 r0 p1 len1 cap1 z1 r1 a2 wa2).mono fun e W' ⟨he, bel⟩ => ?_
  subst he
  exact ⟨_, rfl, _, _, _, [], _, [], hW', trodAll_mk1 (shut_bool Try.underlying4 _), (trodAll_cons_mk (Below.trod laidOut (by kernel_rfl) (of_decide_eq_true (by kernel_rfl)) k0_ bel lt0_) (trodAll_cons_mk (Below.trod laidOut (by kernel_rfl) (of_decide_eq_true (by kernel_rfl)) k1_ bel lt1_) (trodAll_cons_mk (Below.trod laidOut (by kernel_rfl) (of_decide_eq_true (by kernel_rfl)) k2_ bel lt2_) trodAll_mk0))), rfl, bel.frame _, fun h => by cases h⟩

theorem over : Rows.fnExactAreSeparateRow.holds Try.pinned (OpenSpec.ofChange Rows.fnExactAreSeparateSpec) :=
  OpenClaim.holds_of_wide 11 Try.f11 rfl rfl rfl rfl rfl rfl rfl ⟨rfl, rfl, rfl, rfl, rfl⟩ rfl rfl rfl rfl rfl (by kernel_rfl) Try.func11 (by kernel_rfl)
    (of_decide_eq_true (by kernel_rfl)) (by unfold Func.isWrapper; first | (rw [if_pos (by decide +kernel)]; kernel_rfl) | (rw [if_neg (by decide +kernel)]; exact ⟨rfl, rfl⟩))
    (fun os started H enc _ => lifted os started H enc)

/-- the given statement -/
theorem proved : Rows.FnExactAreSeparateSaid := over
#print axioms proved
end Go.Proofs.Ytfbineimojnmbaa.pFnExactAreSeparate
