/- The Go function laws.FnExactHeightAt returns true for every input and leaves its arguments as they were; no condition. -/
import Derived.Test.YtfbineimojnmbaaRows
import Derived.Test.YtfbineimojnmbaaBase
import Derived.Test.YtfbineimojnmbaaNum
import Derived.Test.YtfbineimojnmbaaSeg
import Derived.Test.YtfbineimojnmbaaList
import Derived.Test.YtfbineimojnmbaaLay
import Derived.Test.YtfbineimojnmbaaLay2
import Derived.Test.YtfbineimojnmbaaLay3
import Derived.Test.YtfbineimojnmbaaLay4
import Derived.Test.YtfbineimojnmbaaLay5
import Derived.Test.YtfbineimojnmbaaLay6
import Derived.Test.YtfbineimojnmbaaLay7
import Derived.Test.YtfbineimojnmbaaLay8
import Derived.Test.YtfbineimojnmbaaLay9
import Derived.Test.YtfbineimojnmbaaLay10
import Derived.Test.YtfbineimojnmbaaLay11
import Derived.Test.YtfbineimojnmbaaLay12
import Derived.Test.YtfbineimojnmbaaLay13
import Derived.Test.YtfbineimojnmbaaLay14
import Derived.Lib.Hide
import Derived.WalkKit
import Derived.WalkSpells
import Derived.WalkLawsBesides
import Derived.ProofKit
import Derived.OpenShut
import Derived.ShutString
import Derived.ChangeOld
import Derived.Below
import Derived.Deep.RegionHeld3
import Derived.Deep.DeepCutAuto
import Derived.StillTailTactics
namespace Go.Proofs.Ytfbineimojnmbaa.pFnExactHeightAt
open Go.ChangeShapes Go.WideShapes Go.ChangeAt Go.RowKit
set_option maxHeartbeats 2000000
set_option linter.unusedVariables false
set_option linter.unusedSimpArgs false

theorem walk (w : World) (p0 : Option Addr) (len0 cap0 : Nat) (z0 : List Seg) (r0 : Segs w p0 len0 z0) (a1 : Int) (wa1 : (Lit.int .i64 a1).wf = true) :
    Calls Try.prog 12 #[.agg #[.slice p0 len0 cap0], .int .i64 a1] w fun e w' => e = .returned (.bool true) ∧ Below w.heap.size w w' := by
  have hm := r0.2.1
  have hz := r0.1
  have hs := l_szLayout p0 len0 cap0
  have R := Lib.hid (r0.keep ((Below.refl _ _).alloc (Nat.le_refl _) (Obj.cells #[.slice p0 len0 cap0] 24)))
  have h0 := Own.start (w.alloc (Obj.cells #[.slice p0 len0 cap0] 24))
  clear r0
  by_cases hle : len0 ≤ 1048576
  · have hs1 := fun w => hs w hm
    simp only [if_pos hle] at hs1
    have S := Lib.hid hs1
    clear hs hs1
    have hl1 : (len0 : Int) ≤ 1048576 := by omega
    go_enter Try.func12, Try.ntmps12
    go_wp2_with fail
    refine (S.out _).mono ?_
    rintro e w1 ⟨rfl, hw1⟩
    have hb1 : Own (w.alloc (Obj.cells #[.slice p0 len0 cap0] 24)) w1 := by rw [← hw1]; exact (Own.start _).alloc _
    obtain ⟨hc, hf, hl⟩ := below_box (k := w.heap.size) hb1.below (by simp)
    clear hw1 h0
    go_wp2_with fail
    refine (l_toLayout p0 len0 cap0 z0 _ (R.out.own hb1) hle).mono ?_
    rintro e w2 ⟨g1, rfl, hg1, hr1, hb2⟩
    obtain ⟨hc2, hf2, hl2⟩ := below_box (k := w.heap.size) hb2 hl
    have O2 := hb1.join hb2
    have S2 := Lib.hid (segs_of_row hr1 hz hm)
    clear hr1 hb2 hb1
    go_wp2_with fail
    refine (s_HeightAt _ _ _ z0 a1 _ ?_).mono ?_
    exact S2.out
    rintro e w3 ⟨rfl, hb3⟩
    obtain ⟨hc3, hf3, hl3⟩ := below_box (k := w.heap.size) hb3 hl2
    have O3 := O2.join hb3
    clear hb3 O2
    go_wp2_with fail
    refine (l_toLayout p0 len0 cap0 z0 _ (R.out.own O3) hle).mono ?_
    rintro e w4 ⟨g2, rfl, hg2, hr2, hb4⟩
    obtain ⟨hc4, hf4, hl4⟩ := below_box (k := w.heap.size) hb4 hl3
    have O4 := O3.join hb4
    have S4 := Lib.hid (segs_of_row hr2 hz hm)
    have hg2l := hr2.lt
    clear hr2 hb4 O3
    go_wp2_with fail
    refine (i_HeightAt _ _ _ z0 a1 _ ?_ hle (Nat.le_refl _)).mono ?_
    exact S4.out.alloc _
    rintro e w5 ⟨rfl, hb5⟩
    obtain ⟨hc5, hf5, hl5⟩ := below_box (k := w.heap.size) hb5 (by simp; omega)
    obtain ⟨hc6, hf6, hl6⟩ := below_box (k := w4.heap.size) hb5 (by simp)
    have S5 := Lib.hid ((S4.out.alloc _).keep hb5)
    have O5 := (O4.alloc _).join hb5
    have h50 : w5.cell? ⟨w4.heap.size, 0, none⟩ = some (.slice (some ⟨g2, 0, none⟩) len0 len0) := by rw [hc6 0]; go_simp
    have h51 : w5.cell? ⟨w.heap.size, 0, none⟩ = some (.slice p0 len0 cap0) := by rw [hc5 0]; go_simp
    clear hb5 O4 hc hf hc2 hf2 hc3 hf3 hc4 hf4 hc5 hf5 hc6 hf6
    go_upto_region 10 with fail
    go_region_held3 (fun w' => w'.cell? ⟨w4.heap.size, 0, none⟩ = some (.slice (some ⟨g2, 0, none⟩) len0 len0) ∧ w'.cell? ⟨w.heap.size, 0, none⟩ = some (.slice p0 len0 cap0)) (first | go_keep | exact ⟨by rw [hk1 0]; assumption, by rw [hk2 0]; assumption⟩) (first | (go_at_call 17; refine (l_toLayout p0 len0 cap0 z0 _ (R.out.own O5.drew) hle).mono ?_; rintro e w6 ⟨g3, rfl, hg3, hr3, hb6⟩; obtain ⟨hk1, -, L1⟩ := below_box (k := w4.heap.size) hb6 hl6; obtain ⟨hk2, -, L2⟩ := below_box (k := w.heap.size) hb6 hl5; have S6 := Lib.hid (segs_of_row hr3 hz hm); have O6 := Lib.hid (O5.drew.join hb6); have S56 := Lib.hid (S5.out.drew.keep hb6); clear hr3 hb6) | (go_at_call 19; refine (l_eqLayout _ _ _ _ _ z0 _ S56.out S6.out).mono ?_; rintro e w7 ⟨rfl, hb7⟩; obtain ⟨hk1, -, -⟩ := below_box (k := w4.heap.size) hb7 L1; obtain ⟨hk2, -, -⟩ := below_box (k := w.heap.size) hb7 L2; have O7 := Lib.hid (O6.out.join hb7); clear hb7))
    all_goals (go_wp2; go_ret; exact ⟨rfl, bto (balloc (Below.refl _ _) _) O7.out.below⟩)
  · have hs1 := fun w => hs w hm
    simp only [if_neg hle] at hs1
    have S := Lib.hid hs1
    clear hs hs1
    go_enter Try.func12, Try.ntmps12
    go_wp2_with fail
    refine (S.out _).mono ?_
    rintro e w1 ⟨rfl, hw1⟩
    have hb1 : Own (w.alloc (Obj.cells #[.slice p0 len0 cap0] 24)) w1 := by rw [← hw1]; exact (Own.start _).alloc _
    clear hw1
    go_wp2
    go_ret
    exact ⟨rfl, bto (balloc (Below.refl _ _) _) hb1.below⟩

theorem own : ownKnob Try.prog.godebug = none := by kernel_rfl
theorem laidOut : laidOutB Try.prog = true := by kernel_rfl
set_option maxRecDepth 100000 in
theorem lifted (os : Os) (started : os.Started) (H : Type) (enc : TypeId × Value → H) :
    ReturnsInHanded {} Try.checked os 12 .any (Rows.fnExactHeightAtSpec.pre6 enc Try.prog Try.f12 Rows.fnExactHeightAtRow.domain false) (Rows.fnExactHeightAtSpec.post enc Try.prog Try.f12 false true false false) := by
  refine returnsInHanded_of_change (C := Try.checked) own started (by kernel_rfl) Try.func12
    (ChangeSpec.witness6 (enc := enc) (C := Try.checked) false ⟨#[], #[.agg #[.slice none 0 0], .int .i64 0], []⟩ 8 (by kernel_rfl) (by kernel_rfl) (by kernel_rfl) (by kernel_rfl)) ?_
  intro W base args ds gs before hval0 hW hcnd _
  have hval : ∀ (j : Nat) t v, Try.f12.params[j]? = some t → args[j]? = some v → Value.okWide Try.prog W .any base t v := hval0
  have hW' := hW
  obtain ⟨p, q, hA0, hV, rfl, hfz, hnd⟩ := hW
  have hA : DataW.TrodAll enc Try.prog W 0 (fun _ => true) true Try.f12.params.toList args.toList ds p := hA0
  rw [Try.params12] at hA hval
  obtain ⟨v0, vs0, d0, ds0, pp0, qq0, hargs, rfl, rfl, h0, rr0⟩ := trodAll_cons hA
  obtain ⟨v1, vs1, d1, ds1, pp1, qq1, rfl, rfl, rfl, h1, rr1⟩ := trodAll_cons rr0
  obtain ⟨rfl, rfl, rfl⟩ := trodAll_nil rr1
  obtain rfl : args = #[v0, v1] := by cases args; simp_all
  obtain ⟨rfl, rfl⟩ := trodVars_none hV
  have k0_ := h0
  have lt0_ : ∀ x ∈ pp0, x.block < W.heap.size := by obtain ⟨m, hm⟩ := h0; exact DataW.trod_lt m _ _ _ hm
  have k1_ := h1
  have lt1_ : ∀ x ∈ pp1, x.block < W.heap.size := by obtain ⟨m, hm⟩ := h1; exact DataW.trod_lt m _ _ _ hm
  obtain ⟨p0, len0, cap0, z0, rfl, r0⟩ := open_lay (ti := 2) (tv := 53) (ts := 101) (tl := 22) Try.underlying24 rfl rfl (by kernel_rfl) (by kernel_rfl) Try.underlying22 Try.underlying101 rfl rfl (by kernel_rfl) (by kernel_rfl) (by kernel_rfl) Try.underlying53 (by kernel_rfl) rfl rfl Try.underlying2 (hval 0 24 v0 rfl rfl) h0
  obtain ⟨a1, rfl, -, -, wa1⟩ := open_int Try.underlying2 (hval 1 2 v1 rfl rfl) h1
  clear hA0 hval0
  refine (walk  W p0 len0 cap0 z0 r0 a1 wa1).mono fun e W' ⟨he, bel⟩ => ?_
  subst he
  exact ⟨_, rfl, _, _, _, [], _, [], hW', trodAll_mk1 (shut_bool Try.underlying4 _), (trodAll_cons_mk (Below.trod laidOut (by kernel_rfl) (of_decide_eq_true (by kernel_rfl)) k0_ bel lt0_) (trodAll_cons_mk (Below.trod laidOut (by kernel_rfl) (of_decide_eq_true (by kernel_rfl)) k1_ bel lt1_) trodAll_mk0)), rfl, bel.frame _, fun h => by cases h⟩

theorem over : Rows.fnExactHeightAtRow.holds Try.pinned (OpenSpec.ofChange Rows.fnExactHeightAtSpec) :=
  OpenClaim.holds_of_wide 12 Try.f12 rfl rfl rfl rfl rfl rfl rfl ⟨rfl, rfl, rfl, rfl, rfl⟩ rfl rfl rfl rfl rfl (by kernel_rfl) Try.func12 (by kernel_rfl)
    (of_decide_eq_true (by kernel_rfl)) (by unfold Func.isWrapper; first | (rw [if_pos (by decide +kernel)]; kernel_rfl) | (rw [if_neg (by decide +kernel)]; exact ⟨rfl, rfl⟩))
    (fun os started H enc _ => lifted os started H enc)

/-- the given statement -/
theorem proved : Rows.FnExactHeightAtSaid := over
#print axioms proved
end Go.Proofs.Ytfbineimojnmbaa.pFnExactHeightAt
