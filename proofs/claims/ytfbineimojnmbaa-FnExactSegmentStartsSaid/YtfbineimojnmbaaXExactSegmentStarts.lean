/- The Go function laws.FnExactSegmentStarts returns true for every input and leaves its arguments as they were; no condition. -/
import Derived.Test.YtfbineimojnmbaaRows
import Derived.Test.YtfbineimojnmbaaBase
import Derived.Test.YtfbineimojnmbaaNum
import Derived.Test.YtfbineimojnmbaaSeg
import Derived.Test.YtfbineimojnmbaaList
import Derived.Test.YtfbineimojnmbaaLay
import Derived.Test.YtfbineimojnmbaaLay2
import Derived.Test.YtfbineimojnmbaaLay3
import Derived.Test.YtfbineimojnmbaaLay4
import Derived.Test.YtfbineimojnmbaaLay5
import Derived.Test.YtfbineimojnmbaaLay6
import Derived.Test.YtfbineimojnmbaaLay7
import Derived.Test.YtfbineimojnmbaaLay8
import Derived.Test.YtfbineimojnmbaaLay9
import Derived.Test.YtfbineimojnmbaaLay10
import Derived.Test.YtfbineimojnmbaaLay11
import Derived.Test.YtfbineimojnmbaaLay12
import Derived.Test.YtfbineimojnmbaaLay13
import Derived.Test.YtfbineimojnmbaaLay14
import Derived.Test.YtfbineimojnmbaaLay15
import Derived.Test.YtfbineimojnmbaaLay16
import Derived.Test.YtfbineimojnmbaaLay17
import Derived.Test.YtfbineimojnmbaaLay18
import Derived.Test.YtfbineimojnmbaaLay19
import Derived.Lib.Hide
import Derived.WalkKit
import Derived.WalkSpells
import Derived.WalkLawsBesides
import Derived.ProofKit
import Derived.OpenShut
import Derived.ShutString
import Derived.ChangeOld
import Derived.Below
import Derived.Deep.RegionHeld3
import Derived.Deep.DeepCutAuto
import Derived.StillTailTactics
namespace Go.Proofs.Ytfbineimojnmbaa.pFnExactSegmentStarts
open Go.ChangeShapes Go.WideShapes Go.ChangeAt Go.RowKit
set_option maxHeartbeats 2000000
set_option linter.unusedVariables false
set_option linter.unusedSimpArgs false

set_option maxHeartbeats 8000000 in
theorem walk (w : World) (p0 : Option Addr) (len0 cap0 : Nat) (z0 : List Seg) (r0 : Segs w p0 len0 z0) :
    Calls Try.prog 8 #[.agg #[.slice p0 len0 cap0]] w fun e w' => e = .returned (.bool true) ∧ Below w.heap.size w w' := by
  have hm := r0.2.1
  have hz := r0.1
  have hs := l_szLayout p0 len0 cap0
  have R := Lib.hid (r0.keep ((Below.refl _ _).alloc (Nat.le_refl _) (Obj.cells #[.slice p0 len0 cap0] 24)))
  clear r0
  by_cases hle : len0 ≤ 1048576
  · have hs1 := fun w => hs w hm
    simp only [if_pos hle] at hs1
    have S := Lib.hid hs1
    clear hs hs1
    have hl1 : (len0 : Int) ≤ 1048576 := by omega
    go_enter Try.func8, Try.ntmps8
    go_wp2_with fail
    refine (S.out _).mono ?_
    rintro e w1 ⟨rfl, hw1⟩
    have O1 : Own (w.alloc (Obj.cells #[.slice p0 len0 cap0] 24)) w1 := by rw [← hw1]; exact (Own.start _).alloc _
    have h1b : w1.cell? ⟨w.heap.size, 0, none⟩ = some (.slice p0 len0 cap0) := by rw [(below_box (k := w.heap.size) O1.below (by simp)).1 0]; go_simp
    clear hw1
    go_wp2_with fail
    refine (l_toLayout p0 len0 cap0 z0 _ (R.out.own O1) hle).mono ?_
    rintro e w2 ⟨g1, rfl, hg1, hr1, hb2⟩
    have O2 := O1.join hb2
    have S2 := Lib.hid (segs_of_row hr1 hz hm)
    have h2b : w2.cell? ⟨w.heap.size, 0, none⟩ = some (.slice p0 len0 cap0) := by rw [(below_box (k := w.heap.size) O2.below (by simp)).1 0]; go_simp
    clear hr1 hb2 O1 h1b
    go_wp2_with fail
    refine (s_SegStarts _ _ _ z0 _ S2.out hle).mono ?_
    rintro e w3 ⟨q4, c4, rfl, Q4, hb3⟩
    have O3 := O2.join hb3
    have M4 : ∀ a, q4 = some a → a.block < w3.heap.size := fun a ha => (Q4.2.1 a ha).2
    have h3b : w3.cell? ⟨w.heap.size, 0, none⟩ = some (.slice p0 len0 cap0) := by rw [(below_box (k := w.heap.size) O3.below (by simp)).1 0]; go_simp
    have X4 := Lib.hid Q4
    have hW3 : w.heap.size + 1 ≤ w3.heap.size := by have := O3.le; simpa using this
    have N4 := Lib.hid M4
    clear hb3 O2 h2b Q4 M4
    go_wp2_with fail
    refine (l_toLayout p0 len0 cap0 z0 _ (R.out.own O3) hle).mono ?_
    rintro e w4 ⟨g2, rfl, hg2, hr2, hb4⟩
    have O4 := O3.join hb4
    have h4b : w4.cell? ⟨w.heap.size, 0, none⟩ = some (.slice p0 len0 cap0) := by rw [(below_box (k := w.heap.size) O4.below (by simp)).1 0]; go_simp
    have S4 := Lib.hid (segs_of_row hr2 hz hm)
    have L4 := Lib.hid (ownQ_of_row hr2 (Nat.le_refl _) (by omega))
    have hg2l := hr2.lt
    have h34 := hb4.size
    have Y4 := Lib.hid (X4.out.keep hb4)
    have hwl : w.heap.size < w4.heap.size := World.block_lt_of_cell? w4 _ h4b
    clear hr2 hb4 O3 h3b
    go_wp2_with fail
    refine (i_SegStarts _ _ _ z0 _ (S4.out.alloc _) hle).mono ?_
    rintro e w5 ⟨q7, c7, rfl, Q7, hb5⟩
    have O5 := (O4.alloc _).join hb5
    have h5x : w5.cell? ⟨w4.heap.size, 0, none⟩ = some (.slice (some ⟨g2, 0, none⟩) len0 len0) := by rw [(below_box (k := w4.heap.size) hb5 (by simp)).1 0]; go_simp
    have h5b : w5.cell? ⟨w.heap.size, 0, none⟩ = some (.slice p0 len0 cap0) := by rw [(below_box (k := w.heap.size) hb5 (by simp; omega)).1 0]; go_simp
    have S5 := Lib.hid ((S4.out.alloc _).keep hb5)
    have L5 := Lib.hid ((L4.out.keep (balloc (Below.refl _ _) _)).keep hb5)
    have Z4 := Lib.hid ((Y4.out.keep (balloc (Below.refl _ _) _)).keep hb5)
    have X7 := Lib.hid Q7
    have h45 := hb5.size
    simp only [World.size_alloc] at h45
    have N7 : ∀ a, q7 = some a → w4.heap.size + 1 ≤ a.block := fun a ha => by have := (Q7.2.1 a ha).1; simpa using this
    have N7h := Lib.hid N7
    clear hb5 O4 h4b Q7 N7
    go_wp2_with fail
    refine (l_eqInt64S _ _ _ _ _ _ _ X7.out.ints Z4.out.ints).mono ?_
    rintro e w6 ⟨rfl, hb6⟩
    have O6 := O5.join hb6
    have h6x : w6.cell? ⟨w4.heap.size, 0, none⟩ = some (.slice (some ⟨g2, 0, none⟩) len0 len0) := by rw [(below_box (k := w4.heap.size) hb6 (World.block_lt_of_cell? w5 _ h5x)).1 0]; exact h5x
    have h6b : w6.cell? ⟨w.heap.size, 0, none⟩ = some (.slice p0 len0 cap0) := by rw [(below_box (k := w.heap.size) hb6 (World.block_lt_of_cell? w5 _ h5b)).1 0]; exact h5b
    have S6 := Lib.hid (S5.out.keep hb6)
    have L6 := Lib.hid (L5.out.keep hb6)
    have A4 := Lib.hid (Z4.out.keep hb6)
    have A7 := Lib.hid (X7.out.keep hb6)
    have hl6x := World.block_lt_of_cell? w6 _ h6x
    have hl6b := World.block_lt_of_cell? w6 _ h6b
    clear hb6 O5 h5x h5b
    go_upto_region 10 with fail
    go_region_held3 (fun w' => w'.cell? ⟨w4.heap.size, 0, none⟩ = some (.slice (some ⟨g2, 0, none⟩) len0 len0) ∧ w'.cell? ⟨w.heap.size, 0, none⟩ = some (.slice p0 len0 cap0)) (first | go_keep | exact ⟨by rw [hk1 0]; assumption, by rw [hk2 0]; assumption⟩) (first | (go_at_call 17; refine (l_toLayout p0 len0 cap0 z0 _ (R.out.own O6.drew) hle).mono ?_; rintro e w7 ⟨g3, rfl, hg3, hr3, hb7⟩; obtain ⟨hk1, -, L1⟩ := below_box (k := w4.heap.size) hb7 hl6x; obtain ⟨hk2, -, L2⟩ := below_box (k := w.heap.size) hb7 hl6b; have S7 := Lib.hid (segs_of_row hr3 hz hm); have O7 := Lib.hid (O6.drew.join hb7); have S67 := Lib.hid (S6.out.drew.keep hb7); have B7 := Lib.hid hb7; clear hr3 hb7) | (go_at_call 19; refine (l_eqLayout _ _ _ _ _ z0 _ S67.out S7.out).mono ?_; rintro e w8 ⟨rfl, hb8⟩; obtain ⟨hk1, -, -⟩ := below_box (k := w4.heap.size) hb8 L1; obtain ⟨hk2, -, -⟩ := below_box (k := w.heap.size) hb8 L2; have O8 := Lib.hid (O7.out.join hb8); have B8 := Lib.hid (Below.trans B7.out (hb8.mono B7.out.size)); clear hb8))
    all_goals (clear hk1 hk2)
    all_goals (have L8 := Lib.hid ((show OwnQ _ _ _ w6.drew _ _ _ from L6.out).keep B8.out); have C4 := Lib.hid ((show OwnQ _ _ _ w6.drew _ _ _ from A4.out).keep B8.out); have C7 := Lib.hid ((show OwnQ _ _ _ w6.drew _ _ _ from A7.out).keep B8.out); have h8s : w6.heap.size ≤ w8.heap.size := B8.out.size; have h8b : w8.cell? ⟨w.heap.size, 0, none⟩ = some (.slice p0 len0 cap0) := (by rw [(below_box (k := w.heap.size) B8.out hl6b).1 0]; exact h6b); have h8x : w8.cell? ⟨w4.heap.size, 0, none⟩ = some (.slice (some ⟨g2, 0, none⟩) len0 len0) := (by rw [(below_box (k := w4.heap.size) B8.out hl6x).1 0]; exact h6x); clear h6x h6b)
    all_goals (
      go_wp2_with fail
      refine (l_markLayout1 (some ⟨g2, 0, none⟩) len0 len0 _ _ _ L8.out).mono ?_
      rintro e w9 ⟨rfl, hc9⟩
      have O9 : Own (w.alloc (Obj.cells #[.slice p0 len0 cap0] 24)) w9 := Below.trans O8.out.below (hc9.below (O8.out.le) (fun a ha => by simp only [Option.some.injEq] at ha; subst ha; simp; omega))
      have D4 := Lib.hid (C4.out.other hc9 (fun a b ha hb => by simp only [Option.some.injEq] at hb; subst hb; have := N4.out a ha; simp; omega))
      have D7 := Lib.hid (C7.out.other hc9 (fun a b ha hb => by simp only [Option.some.injEq] at hb; subst hb; have := N7h.out a ha; simp; omega))
      have h9s := hc9.size
      have h9b : w9.cell? ⟨w.heap.size, 0, none⟩ = some (.slice p0 len0 cap0) := by rw [(below_box (k := w.heap.size) O9.below (by simp)).1 0]; go_simp
      clear hc9 h8b h8x
      go_wp2_with fail
      refine (l_eqInt64S _ _ _ _ _ _ _ D7.out.ints D4.out.ints).mono ?_
      rintro e w10 ⟨rfl, hb10⟩
      have O10 := O9.join hb10
      have E4 := Lib.hid (D4.out.keep hb10)
      have E7 := Lib.hid (D7.out.keep hb10)
      have h10b : w10.cell? ⟨w.heap.size, 0, none⟩ = some (.slice p0 len0 cap0) := by rw [(below_box (k := w.heap.size) O10.below (by simp)).1 0]; go_simp
      have h10s := hb10.size
      clear hb10 O9 h9b
      go_wp2_with fail
      refine (l_markInt64S1 _ _ _ _ _ _ E7.out).mono ?_
      rintro e w11 ⟨rfl, F7, hc11⟩
      have O11 : Own (w.alloc (Obj.cells #[.slice p0 len0 cap0] 24)) w11 := Below.trans O10.below (hc11.below (O10.le) (fun a ha => by have := N7h.out a ha; simp; omega))
      have F4 := Lib.hid (E4.out.other hc11 (fun a b ha hb => by have := N4.out a ha; have := N7h.out b hb; omega))
      have F7h := Lib.hid F7
      have h11b : w11.cell? ⟨w.heap.size, 0, none⟩ = some (.slice p0 len0 cap0) := by rw [(below_box (k := w.heap.size) O11.below (by simp)).1 0]; go_simp
      clear hc11 F7 O10 h10b
      go_wp2_with fail
      refine (l_heldInt64S1 _ _ _ _ _ F7h.out).mono ?_
      rintro e w12 ⟨rfl, hw12⟩
      subst hw12
      go_wp2_with fail
      refine (l_toLayout p0 len0 cap0 z0 _ (R.out.own O11) hle).mono ?_
      rintro e w13 ⟨g4, rfl, hg4, hr4, hb13⟩
      have O13 := O11.join hb13
      have G4 := Lib.hid (F4.out.keep hb13)
      have G7 := Lib.hid (F7h.out.keep hb13)
      have S13 := Lib.hid (segs_of_row hr4 hz hm)
      clear hr4 hb13 O11 h11b
      go_wp2_with fail
      refine (i_SegStarts _ _ _ z0 _ S13.out hle).mono ?_
      rintro e w14 ⟨q14, c14, rfl, Q14, hb14⟩
      have O14 := O13.join hb14
      have H4 := Lib.hid (G4.out.keep hb14)
      have H7 := Lib.hid (G7.out.keep hb14)
      have X14 := Lib.hid Q14
      clear hb14 O13 Q14
      go_wp2_with fail
      refine (l_eqInt64S _ _ _ _ _ _ _ X14.out.ints H4.out.ints).mono ?_
      rintro e w15 ⟨rfl, hb15⟩
      have O15 := Lib.hid (O14.join hb15)
      have I7 := Lib.hid (H7.out.keep hb15)
      clear hb15 O14
      go_wp2_with fail
      refine (l_heldInt64S1 _ _ _ _ _ I7.out).mono ?_
      rintro e w16 ⟨rfl, hw16⟩
      subst hw16
      go_wp2
      go_ret
      exact ⟨rfl, bto (balloc (Below.refl _ _) _) O15.out.below⟩)
  · have hs1 := fun w => hs w hm
    simp only [if_neg hle] at hs1
    have S := Lib.hid hs1
    clear hs hs1
    go_enter Try.func8, Try.ntmps8
    go_wp2_with fail
    refine (S.out _).mono ?_
    rintro e w1 ⟨rfl, hw1⟩
    have hb1 : Own (w.alloc (Obj.cells #[.slice p0 len0 cap0] 24)) w1 := by rw [← hw1]; exact (Own.start _).alloc _
    clear hw1
    go_wp2
    go_ret
    exact ⟨rfl, bto (balloc (Below.refl _ _) _) hb1.below⟩

theorem own : ownKnob Try.prog.godebug = none := by kernel_rfl
theorem laidOut : laidOutB Try.prog = true := by kernel_rfl
set_option maxRecDepth 100000 in
theorem lifted (os : Os) (started : os.Started) (H : Type) (enc : TypeId × Value → H) :
    ReturnsInHanded {} Try.checked os 8 .any (Rows.fnExactSegmentStartsSpec.pre6 enc Try.prog Try.f8 Rows.fnExactSegmentStartsRow.domain false) (Rows.fnExactSegmentStartsSpec.post enc Try.prog Try.f8 false true false false) := by
  refine returnsInHanded_of_change (C := Try.checked) own started (by kernel_rfl) Try.func8
    (ChangeSpec.witness6 (enc := enc) (C := Try.checked) false ⟨#[], #[.agg #[.slice none 0 0]], []⟩ 8 (by kernel_rfl) (by kernel_rfl) (by kernel_rfl) (by kernel_rfl)) ?_
  intro W base args ds gs before hval0 hW hcnd _
  have hval : ∀ (j : Nat) t v, Try.f8.params[j]? = some t → args[j]? = some v → Value.okWide Try.prog W .any base t v := hval0
  have hW' := hW
  obtain ⟨p, q, hA0, hV, rfl, hfz, hnd⟩ := hW
  have hA : DataW.TrodAll enc Try.prog W 0 (fun _ => true) true Try.f8.params.toList args.toList ds p := hA0
  rw [Try.params8] at hA hval
  obtain ⟨v0, vs0, d0, ds0, pp0, qq0, hargs, rfl, rfl, h0, rr0⟩ := trodAll_cons hA
  obtain ⟨rfl, rfl, rfl⟩ := trodAll_nil rr0
  obtain rfl : args = #[v0] := by cases args; simp_all
  obtain ⟨rfl, rfl⟩ := trodVars_none hV
  have k0_ := h0
  have lt0_ : ∀ x ∈ pp0, x.block < W.heap.size := by obtain ⟨m, hm⟩ := h0; exact DataW.trod_lt m _ _ _ hm
  obtain ⟨p0, len0, cap0, z0, rfl, r0⟩ := open_lay (ti := 2) (tv := 53) (ts := 101) (tl := 22) Try.underlying24 rfl rfl (by kernel_rfl) (by kernel_rfl) Try.underlying22 Try.underlying101 rfl rfl (by kernel_rfl) (by kernel_rfl) (by kernel_rfl) Try.underlying53 (by kernel_rfl) rfl rfl Try.underlying2 (hval 0 24 v0 rfl rfl) h0
  clear hA0 hval0
  refine (walk  W p0 len0 cap0 z0 r0).mono fun e W' ⟨he, bel⟩ => ?_
  subst he
  exact ⟨_, rfl, _, _, _, [], _, [], hW', trodAll_mk1 (shut_bool Try.underlying4 _), (trodAll_cons_mk (Below.trod laidOut (by kernel_rfl) (of_decide_eq_true (by kernel_rfl)) k0_ bel lt0_) trodAll_mk0), rfl, bel.frame _, fun h => by cases h⟩

theorem over : Rows.fnExactSegmentStartsRow.holds Try.pinned (OpenSpec.ofChange Rows.fnExactSegmentStartsSpec) :=
  OpenClaim.holds_of_wide 8 Try.f8 rfl rfl rfl rfl rfl rfl rfl ⟨rfl, rfl, rfl, rfl, rfl⟩ rfl rfl rfl rfl rfl (by kernel_rfl) Try.func8 (by kernel_rfl)
    (of_decide_eq_true (by kernel_rfl)) (by unfold Func.isWrapper; first | (rw [if_pos (by decide +kernel)]; kernel_rfl) | (rw [if_neg (by decide +kernel)]; exact ⟨rfl, rfl⟩))
    (fun os started H enc _ => lifted os started H enc)

/-- the given statement -/
theorem proved : Rows.FnExactSegmentStartsSaid := over
#print axioms proved
end Go.Proofs.Ytfbineimojnmbaa.pFnExactSegmentStarts
