/- The Go function laws.FnExactEnergyAlong returns true for every input and leaves its arguments as they were; no condition. -/
import Derived.Test.YtfbineimojnmbaaRows
import Derived.Test.YtfbineimojnmbaaBase
import Derived.Test.YtfbineimojnmbaaNum
import Derived.Test.YtfbineimojnmbaaIv
import Derived.Test.YtfbineimojnmbaaSeg
import Derived.Test.YtfbineimojnmbaaList
import Derived.Test.YtfbineimojnmbaaLay
import Derived.Test.YtfbineimojnmbaaLay2
import Derived.Test.YtfbineimojnmbaaLay3
import Derived.Test.YtfbineimojnmbaaLay4
import Derived.Test.YtfbineimojnmbaaLay5
import Derived.Test.YtfbineimojnmbaaLay6
import Derived.Test.YtfbineimojnmbaaLay7
import Derived.Test.YtfbineimojnmbaaLay8
import Derived.Test.YtfbineimojnmbaaLay9
import Derived.Test.YtfbineimojnmbaaLay10
import Derived.Test.YtfbineimojnmbaaLay11
import Derived.Test.YtfbineimojnmbaaLay12
import Derived.Test.YtfbineimojnmbaaLay13
import Derived.Test.YtfbineimojnmbaaLay14
import Derived.Test.YtfbineimojnmbaaLay15
import Derived.Test.YtfbineimojnmbaaLay16
import Derived.Test.YtfbineimojnmbaaLay17
import Derived.Test.YtfbineimojnmbaaLay18
import Derived.Test.YtfbineimojnmbaaLay19
import Derived.Test.YtfbineimojnmbaaLay20
import Derived.Test.YtfbineimojnmbaaLay21
import Derived.Lib.Hide
import Derived.WalkKit
import Derived.WalkSpells
import Derived.WalkLawsBesides
import Derived.ProofKit
import Derived.OpenShut
import Derived.ShutString
import Derived.ChangeOld
import Derived.Below
import Derived.Deep.RegionHeld3
import Derived.Deep.DeepCutAuto
import Derived.StillTailTactics
namespace Go.Proofs.Ytfbineimojnmbaa.pFnExactEnergyAlong
open Go.ChangeShapes Go.WideShapes Go.ChangeAt Go.RowKit
set_option maxHeartbeats 2000000
set_option linter.unusedVariables false
set_option linter.unusedSimpArgs false

set_option maxHeartbeats 8000000 in
theorem walk (w : World) (p0 : Option Addr) (len0 cap0 : Nat) (z0 : List Seg) (r0 : Segs w p0 len0 z0) (a1 : Int) (wa1 : (Lit.int .i64 a1).wf = true) (a2 : Int) (wa2 : (Lit.int .i64 a2).wf = true) (a3 b3 : Int) (wa3 : (Lit.int .i64 a3).wf = true) (wb3 : (Lit.int .i64 b3).wf = true) :
    Calls Try.prog 13 #[.agg #[.slice p0 len0 cap0], .int .i64 a1, .int .i64 a2, ivV a3 b3] w fun e w' => e = .returned (.bool true) ∧ Below w.heap.size w w' := by
  have hm := r0.2.1
  have hz := r0.1
  have hs := l_szLayout p0 len0 cap0
  have R := Lib.hid (r0.keep (((Below.refl _ _).alloc (Nat.le_refl _) (Obj.cells #[.slice p0 len0 cap0] 24)).alloc (by simp) (Obj.cells #[.int .i64 a3, .int .i64 b3] 53)))
  clear r0
  by_cases hle : len0 ≤ 1048576
  · have hs1 := fun w => hs w hm
    simp only [if_pos hle] at hs1
    have S := Lib.hid hs1
    clear hs hs1
    have hl1 : (len0 : Int) ≤ 1048576 := by omega
    go_enter Try.func13, Try.ntmps13
    go_wp2_with fail
    refine (S.out _).mono ?_
    rintro e w1 ⟨rfl, hw1⟩
    have O1 : Own ((w.alloc (Obj.cells #[.slice p0 len0 cap0] 24)).alloc (Obj.cells #[.int .i64 a3, .int .i64 b3] 53)) w1 := by rw [← hw1]; exact (Own.start _).alloc _
    obtain ⟨u11, u12, u13, u14⟩ := box_of_own O1
    clear hw1
    go_wp2
    go_region_held3 (fun w' => w'.cell? ⟨w.heap.size, 0, none⟩ = some (.slice p0 len0 cap0) ∧ w'.cell? ⟨w.heap.size + 1, 0, none⟩ = some (.int .i64 a3) ∧ w'.cell? ⟨w.heap.size + 1, 1, none⟩ = some (.int .i64 b3)) ((first | (go_simp; done) | go_keep)) (first | (go_at_call 17; refine (l_toLayout p0 len0 cap0 z0 _ (R.out.own ?_) hle).mono ?_; (focus (first | exact O1.drew | exact O1.join PI4)); rintro e wL4 ⟨gL4, rfl, hgL, hrL, hbL⟩; (first | have PL4 := (Own.start w1).drew.join hbL | have PL4 := PI4.join hbL); have SL4 := Lib.hid (segs_of_row hrL hz hm); obtain ⟨uL1, uL2, uL3, uL4⟩ := box_of_own (O1.join PL4); clear hrL hgL hbL) | (go_at_call 44; refine (l_toInterval a3 b3 _).mono ?_; rintro e wI4 ⟨rfl, hbI⟩; (first | have PI4 := (Own.start w1).drew.join hbI | have PI4 := PL4.join hbI); (try have SI4 := Lib.hid (SL4.out.keep hbI)); obtain ⟨uI1, uI2, uI3, uI4⟩ := box_of_own (O1.join PI4); clear hbI) | (go_at_call 43; refine (s_EnergyAlong _ _ _ z0 a1 a2 a3 b3 _ ?_ hle).mono ?_; (focus (first | exact SI4.out | exact SL4.out)); rintro e wE4 ⟨q4, c4, rfl, Q4, hbE⟩; (first | have PE4 := PI4.join hbE | have PE4 := PL4.join hbE); obtain ⟨uE1, uE2, uE3, uE4⟩ := box_of_own (O1.join PE4); have X4 := Lib.hid Q4; clear hbE Q4))
    all_goals (
      have O4 := O1.join PE4
      have N4 : Hid (∀ a, q4 = some a → a.block < wE4.heap.size) := fun a ha => (X4.out.2.1 a ha).2
      (clear PE4)
      (try clear PI4); (try clear PL4); (try clear uI1 uI2 uI3 uI4); (try clear uL1 uL2 uL3 uL4)
      go_wp2_with fail
      refine (l_toLayout p0 len0 cap0 z0 _ (R.out.own O4) hle).mono ?_
      rintro e w5 ⟨g2, rfl, hg2, hr2, hb5⟩
      have O5 := (O4.join hb5).alloc (Obj.cells #[.slice (some ⟨g2, 0, none⟩) len0 len0] 29)
      have S5 := Lib.hid ((segs_of_row hr2 hz hm).alloc (Obj.cells #[.slice (some ⟨g2, 0, none⟩) len0 len0] 29))
      have L5 := Lib.hid ((ownQ_of_row hr2 (Nat.le_refl _) (by omega)).keep (balloc (Below.refl _ _) (Obj.cells #[.slice (some ⟨g2, 0, none⟩) len0 len0] 29)))
      have hg2l := hr2.lt
      have h45 := hb5.size
      have Y5 := Lib.hid ((X4.out.keep hb5).keep (balloc (Below.refl _ _) (Obj.cells #[.slice (some ⟨g2, 0, none⟩) len0 len0] 29)))
      obtain ⟨u51, u52, u53, u54⟩ := box_of_own (O4.join hb5)
      have w4E := uE4
      clear hr2 hb5 O4 uE1 uE2 uE3 uE4
      go_wp2
      go_region_held3 (fun w' => w'.cell? ⟨w5.heap.size, 0, none⟩ = some (.slice (some ⟨g2, 0, none⟩) len0 len0) ∧ w'.cell? ⟨w.heap.size + 1, 0, none⟩ = some (.int .i64 a3) ∧ w'.cell? ⟨w.heap.size + 1, 1, none⟩ = some (.int .i64 b3)) ((first | (go_simp; done) | go_keep)) (first | (go_at_call 44; refine (l_toInterval a3 b3 _).mono ?_; rintro e w6 ⟨rfl, hb6⟩; have P6 := (Own.start (w5.alloc (Obj.cells #[.slice (some ⟨g2, 0, none⟩) len0 len0] 29))).drew.join hb6; obtain ⟨u61, u62, u63, u64⟩ := box_of_own (O5.join P6); have h6x := xbox_of_own P6; clear hb6) | (go_at_call 45; refine (i_EnergyAlong _ _ _ z0 a1 a2 a3 b3 _ (S5.out.keep P6) hle).mono ?_; rintro e w7 ⟨q7, c7, rfl, Q7, hb7⟩; have P7 := P6.join hb7; obtain ⟨u71, u72, u73, u74⟩ := box_of_own (O5.join P7); have h7x := xbox_of_own P7; have X7 := Lib.hid Q7; have h67 := hb7.size; clear hb7 Q7))
      have O7 := O5.join P7
      have S7 := Lib.hid (S5.out.keep P7)
      have L7 := Lib.hid (L5.out.keep P7)
      have Z4 := Lib.hid (Y5.out.keep P7)
      have N7 : Hid (∀ a, q7 = some a → w5.heap.size + 1 ≤ a.block) := fun a ha => by have h1 := (X7.out.2.1 a ha).1; have h2 := P6.le; rw [World.size_alloc] at h2; omega
      have h57 := P7.le
      rw [World.size_alloc] at h57
      clear P6 P7 O5 u61 u62 u63 u64 h6x u51 u52 u53 u54
      go_wp2_with fail
      refine (l_eqIntervalS _ _ _ _ _ _ _ _ _ _ _ X7.out Z4.out).mono ?_
      rintro e w8 ⟨rfl, hb8⟩
      have O8 := O7.join hb8
      have S8 := Lib.hid (S7.out.keep hb8)
      have L8 := Lib.hid (L7.out.keep hb8)
      have A4 := Lib.hid (Z4.out.keep hb8)
      have A7 := Lib.hid (X7.out.keep hb8)
      have h78 := hb8.size
      have h8x : w8.cell? ⟨w5.heap.size, 0, none⟩ = some (.slice (some ⟨g2, 0, none⟩) len0 len0) := by rw [(below_box (k := w5.heap.size) hb8 (by omega)).1 0]; exact h7x
      obtain ⟨u81, u82, u83, u84⟩ := box_of_own O8
      clear hb8 O7 h7x u71 u72 u73 u74
      go_wp2
      go_region_held3 (fun w' => w'.cell? ⟨w5.heap.size, 0, none⟩ = some (.slice (some ⟨g2, 0, none⟩) len0 len0) ∧ w'.cell? ⟨w.heap.size, 0, none⟩ = some (.slice p0 len0 cap0)) ((first | (go_simp; done) | go_keep)) (first | (go_at_call 17; refine (l_toLayout p0 len0 cap0 z0 _ (R.out.own O8.drew) hle).mono ?_; rintro e w9 ⟨g3, rfl, hg3, hr3, hb9⟩; have P9 := (Own.start w8).drew.join hb9; have h9x : w9.cell? ⟨w5.heap.size, 0, none⟩ = some (.slice (some ⟨g2, 0, none⟩) len0 len0) := (by rw [(below_box (k := w5.heap.size) P9 (by omega)).1 0]; exact h8x); obtain ⟨u91, u92, u93, u94⟩ := box_of_own (O8.join P9); have S9 := Lib.hid (segs_of_row hr3 hz hm); have h89 := P9.le; clear hr3 hb9) | (go_at_call 19; refine (l_eqLayout _ _ _ _ _ z0 _ (S8.out.keep P9) S9.out).mono ?_; rintro e wA ⟨rfl, hbA⟩; have PA := P9.join hbA; have hAx : wA.cell? ⟨w5.heap.size, 0, none⟩ = some (.slice (some ⟨g2, 0, none⟩) len0 len0) := (by rw [(below_box (k := w5.heap.size) PA (by omega)).1 0]; exact h8x); obtain ⟨uA1, uA2, uA3, uA4⟩ := box_of_own (O8.join PA); have h8A := PA.le; clear hbA))
      have OA := O8.join PA
      have LA := Lib.hid (L8.out.keep PA)
      have C4 := Lib.hid (A4.out.keep PA)
      have C7 := Lib.hid (A7.out.keep PA)
      clear P9 PA O8 h9x u91 u92 u93 u94 u81 u82 u83 u84 h8x
      go_wp2_with fail
      refine (l_markLayout1 (some ⟨g2, 0, none⟩) len0 len0 _ _ _ LA.out).mono ?_
      rintro e wB ⟨rfl, hcB⟩
      have OB : Own ((w.alloc (Obj.cells #[.slice p0 len0 cap0] 24)).alloc (Obj.cells #[.int .i64 a3, .int .i64 b3] 53)) wB := Below.trans OA.below (hcB.below (OA.le) (fun a ha => by simp only [Option.some.injEq] at ha; subst ha; simp; omega))
      have D4 := Lib.hid (C4.out.other hcB (fun a b ha hb => by simp only [Option.some.injEq] at hb; subst hb; have := N4.out a ha; simp; omega))
      have D7 := Lib.hid (C7.out.other hcB (fun a b ha hb => by simp only [Option.some.injEq] at hb; subst hb; have := N7.out a ha; simp; omega))
      have hAB := hcB.size
      obtain ⟨uB1, uB2, uB3, uB4⟩ := box_of_own OB
      clear hcB OA hAx uA1 uA2 uA3 uA4
      go_wp2_with fail
      refine (l_eqIntervalS _ _ _ _ _ _ _ _ _ _ _ D7.out D4.out).mono ?_
      rintro e wC ⟨rfl, hbC⟩
      have OC := OB.join hbC
      have E4 := Lib.hid (D4.out.keep hbC)
      have E7 := Lib.hid (D7.out.keep hbC)
      obtain ⟨uC1, uC2, uC3, uC4⟩ := box_of_own OC
      clear hbC OB uB1 uB2 uB3 uB4
      go_wp2_with fail
      refine (l_markIntervalS1 _ _ _ _ _ _ E7.out).mono ?_
      rintro e wD ⟨rfl, F7, hcD⟩
      have OD : Own ((w.alloc (Obj.cells #[.slice p0 len0 cap0] 24)).alloc (Obj.cells #[.int .i64 a3, .int .i64 b3] 53)) wD := Below.trans OC.below (hcD.below (OC.le) (fun a ha => by have := N7.out a ha; simp; omega))
      have F4 := Lib.hid (E4.out.other hcD (fun a b ha hb => by have := N4.out a ha; have := N7.out b hb; omega))
      have F7h := Lib.hid F7
      obtain ⟨uD1, uD2, uD3, uD4⟩ := box_of_own OD
      clear hcD F7 OC uC1 uC2 uC3 uC4
      go_wp2_with fail
      refine (l_heldIntervalS1 _ _ _ _ _ F7h.out).mono ?_
      rintro e wD2 ⟨rfl, hwD⟩
      subst hwD
      go_wp2)
    all_goals (go_region_held3 (fun w' => w'.cell? ⟨w.heap.size, 0, none⟩ = some (.slice p0 len0 cap0) ∧ w'.cell? ⟨w.heap.size + 1, 0, none⟩ = some (.int .i64 a3) ∧ w'.cell? ⟨w.heap.size + 1, 1, none⟩ = some (.int .i64 b3)) ((first | (go_simp; done) | go_keep)) (first | (go_at_call 17; refine (l_toLayout p0 len0 cap0 z0 _ (R.out.own ?_) hle).mono ?_; (focus (first | exact OD.drew | exact OD.join PIf)); rintro e wLf ⟨gLf, rfl, hgL, hrL, hbL⟩; (first | have PLf := (Own.start wD).drew.join hbL | have PLf := PIf.join hbL); have SLf := Lib.hid (segs_of_row hrL hz hm); obtain ⟨uL1, uL2, uL3, uL4⟩ := box_of_own (OD.join PLf); clear hrL hgL hbL) | (go_at_call 44; refine (l_toInterval a3 b3 _).mono ?_; rintro e wIf ⟨rfl, hbI⟩; (first | have PIf := (Own.start wD).drew.join hbI | have PIf := PLf.join hbI); (try have SIf := Lib.hid (SLf.out.keep hbI)); obtain ⟨uI1, uI2, uI3, uI4⟩ := box_of_own (OD.join PIf); clear hbI) | (go_at_call 45; refine (i_EnergyAlong _ _ _ z0 a1 a2 a3 b3 _ ?_ hle).mono ?_; (focus (first | exact SIf.out | exact SLf.out)); rintro e wEf ⟨qf, cf, rfl, Qf, hbE⟩; (first | have PEf := PIf.join hbE | have PEf := PLf.join hbE); obtain ⟨uE1, uE2, uE3, uE4⟩ := box_of_own (OD.join PEf); have Xf := Lib.hid Qf; clear hbE Qf)))
    all_goals (
      have OF := OD.join PEf
      have G4 := Lib.hid (F4.out.keep PEf)
      have G7 := Lib.hid (F7h.out.keep PEf)
      clear PEf
      go_wp2_with fail
      refine (l_eqIntervalS _ _ _ _ _ _ _ _ _ _ _ Xf.out G4.out).mono ?_
      rintro e wG ⟨rfl, hbG⟩
      have OG := Lib.hid (OF.join hbG)
      have I7 := Lib.hid (G7.out.keep hbG)
      clear hbG OF
      go_wp2_with fail
      refine (l_heldIntervalS1 _ _ _ _ _ I7.out).mono ?_
      rintro e wH ⟨rfl, hwH⟩
      subst hwH
      go_wp2
      go_ret
      exact ⟨rfl, bto (below_alloc2 _ _ _) OG.out.below⟩)
  · have hs1 := fun w => hs w hm
    simp only [if_neg hle] at hs1
    have S := Lib.hid hs1
    clear hs hs1
    go_enter Try.func13, Try.ntmps13
    go_wp2_with fail
    refine (S.out _).mono ?_
    rintro e w1 ⟨rfl, hw1⟩
    have hb1 : Own ((w.alloc (Obj.cells #[.slice p0 len0 cap0] 24)).alloc (Obj.cells #[.int .i64 a3, .int .i64 b3] 53)) w1 := by rw [← hw1]; exact (Own.start _).alloc _
    clear hw1
    go_wp2
    go_ret
    exact ⟨rfl, bto (below_alloc2 _ _ _) hb1.below⟩

theorem own : ownKnob Try.prog.godebug = none := by kernel_rfl
theorem laidOut : laidOutB Try.prog = true := by kernel_rfl
set_option maxRecDepth 100000 in
theorem lifted (os : Os) (started : os.Started) (H : Type) (enc : TypeId × Value → H) :
    ReturnsInHanded {} Try.checked os 13 .any (Rows.fnExactEnergyAlongSpec.pre6 enc Try.prog Try.f13 Rows.fnExactEnergyAlongRow.domain false) (Rows.fnExactEnergyAlongSpec.post enc Try.prog Try.f13 false true false false) := by
  refine returnsInHanded_of_change (C := Try.checked) own started (by kernel_rfl) Try.func13
    (ChangeSpec.witness6 (enc := enc) (C := Try.checked) false ⟨#[], #[.agg #[.slice none 0 0], .int .i64 0, .int .i64 0, .agg #[.int .i64 0, .int .i64 0]], []⟩ 8 (by kernel_rfl) (by kernel_rfl) (by kernel_rfl) (by kernel_rfl)) ?_
  intro W base args ds gs before hval0 hW hcnd _
  have hval : ∀ (j : Nat) t v, Try.f13.params[j]? = some t → args[j]? = some v → Value.okWide Try.prog W .any base t v := hval0
  have hW' := hW
  obtain ⟨p, q, hA0, hV, rfl, hfz, hnd⟩ := hW
  have hA : DataW.TrodAll enc Try.prog W 0 (fun _ => true) true Try.f13.params.toList args.toList ds p := hA0
  rw [Try.params13] at hA hval
  obtain ⟨v0, vs0, d0, ds0, pp0, qq0, hargs, rfl, rfl, h0, rr0⟩ := trodAll_cons hA
  obtain ⟨v1, vs1, d1, ds1, pp1, qq1, rfl, rfl, rfl, h1, rr1⟩ := trodAll_cons rr0
  obtain ⟨v2, vs2, d2, ds2, pp2, qq2, rfl, rfl, rfl, h2, rr2⟩ := trodAll_cons rr1
  obtain ⟨v3, vs3, d3, ds3, pp3, qq3, rfl, rfl, rfl, h3, rr3⟩ := trodAll_cons rr2
  obtain ⟨rfl, rfl, rfl⟩ := trodAll_nil rr3
  obtain rfl : args = #[v0, v1, v2, v3] := by cases args; simp_all
  obtain ⟨rfl, rfl⟩ := trodVars_none hV
  have k0_ := h0
  have lt0_ : ∀ x ∈ pp0, x.block < W.heap.size := by obtain ⟨m, hm⟩ := h0; exact DataW.trod_lt m _ _ _ hm
  have k1_ := h1
  have lt1_ : ∀ x ∈ pp1, x.block < W.heap.size := by obtain ⟨m, hm⟩ := h1; exact DataW.trod_lt m _ _ _ hm
  have k2_ := h2
  have lt2_ : ∀ x ∈ pp2, x.block < W.heap.size := by obtain ⟨m, hm⟩ := h2; exact DataW.trod_lt m _ _ _ hm
  have k3_ := h3
  have lt3_ : ∀ x ∈ pp3, x.block < W.heap.size := by obtain ⟨m, hm⟩ := h3; exact DataW.trod_lt m _ _ _ hm
  obtain ⟨p0, len0, cap0, z0, rfl, r0⟩ := open_lay (ti := 2) (tv := 53) (ts := 101) (tl := 22) Try.underlying24 rfl rfl (by kernel_rfl) (by kernel_rfl) Try.underlying22 Try.underlying101 rfl rfl (by kernel_rfl) (by kernel_rfl) (by kernel_rfl) Try.underlying53 (by kernel_rfl) rfl rfl Try.underlying2 (hval 0 24 v0 rfl rfl) h0
  obtain ⟨a1, rfl, -, -, wa1⟩ := open_int Try.underlying2 (hval 1 2 v1 rfl rfl) h1
  obtain ⟨a2, rfl, -, -, wa2⟩ := open_int Try.underlying2 (hval 2 2 v2 rfl rfl) h2
  obtain ⟨a3, b3, rfl, wa3, wb3⟩ := open_iv Try.underlying53 (by kernel_rfl) (by kernel_rfl) Try.underlying2 Try.underlying2 (hval 3 53 v3 rfl rfl) h3
  clear hA0 hval0
  refine (walk  W p0 len0 cap0 z0 r0 a1 wa1 a2 wa2 a3 b3 wa3 wb3).mono fun e W' ⟨he, bel⟩ => ?_
  subst he
  exact ⟨_, rfl, _, _, _, [], _, [], hW', trodAll_mk1 (shut_bool Try.underlying4 _), (trodAll_cons_mk (Below.trod laidOut (by kernel_rfl) (of_decide_eq_true (by kernel_rfl)) k0_ bel lt0_) (trodAll_cons_mk (Below.trod laidOut (by kernel_rfl) (of_decide_eq_true (by kernel_rfl)) k1_ bel lt1_) (trodAll_cons_mk (Below.trod laidOut (by kernel_rfl) (of_decide_eq_true (by kernel_rfl)) k2_ bel lt2_) (trodAll_cons_mk (Below.trod laidOut (by kernel_rfl) (of_decide_eq_true (by kernel_rfl)) k3_ bel lt3_) trodAll_mk0)))), rfl, bel.frame _, fun h => by cases h⟩

theorem over : Rows.fnExactEnergyAlongRow.holds Try.pinned (OpenSpec.ofChange Rows.fnExactEnergyAlongSpec) :=
  OpenClaim.holds_of_wide 13 Try.f13 rfl rfl rfl rfl rfl rfl rfl ⟨rfl, rfl, rfl, rfl, rfl⟩ rfl rfl rfl rfl rfl (by kernel_rfl) Try.func13 (by kernel_rfl)
    (of_decide_eq_true (by kernel_rfl)) (by unfold Func.isWrapper; first | (rw [if_pos (by decide +kernel)]; kernel_rfl) | (rw [if_neg (by decide +kernel)]; exact ⟨rfl, rfl⟩))
    (fun os started H enc _ => lifted os started H enc)

/-- the given statement -/
theorem proved : Rows.FnExactEnergyAlongSaid := over
#print axioms proved
end Go.Proofs.Ytfbineimojnmbaa.pFnExactEnergyAlong
